/- Lemmas for ScriptRuns. -/
import Derived.WalkKit
import Derived.Lib.Hide
import Derived.Maps.AppendAt
import Derived.Deep.Draws
import Derived.Laws.OwnMore
import Derived.Laws.Rows
import Derived.Lib.AppendStr
import Derived.Laws.BitsAllLaws
import Derived.Laws.BitsLemmas
import Derived.Laws.BytesString
set_option maxRecDepth 100000
set_option maxHeartbeats 4000000
set_option linter.unusedVariables false
set_option linter.unusedSimpArgs false
namespace Go.Proofs.YthcbjeeajoliiaaGreatDoor
open Go.RowKit
theorem dF:(∀(a:Act) (v:Value),a.put none v=a)∧(∀(a:Act) (i:Nat) (v:Value),a.put (some i) v={a with tmps:=a.tmps.setIfInBounds i v})∧(∀(l:List Value) (i:Nat) (a:Value),l.toArray.setIfInBounds i a=(l.set i a).toArray)∧(∀(a b:Value) (l:List Value),(a::l).set 0 b=b::l)∧∀(a b:Value) (l:List Value) (n:Nat),(a::l).set (n+1) b=a::l.set n b:=⟨fun _ _=>rfl,fun _ _ _=>rfl,fun _ _ _=>by simp,fun _ _ _=>rfl,fun _ _ _ _=>rfl⟩
theorem eX.{u}:(∀(α:Type u) (l:List α) (i:Nat) (a:α),l.toArray.setIfInBounds i a=(l.set i a).toArray)∧(∀(α:Type u) (a b:α) (l:List α),(a::l).set 0 b=b::l)∧∀(α:Type u) (a b:α) (l:List α) (n:Nat),(a::l).set (n+1) b=a::l.set n b:=⟨fun _ _ _ _=>by simp,fun _ _ _ _=>rfl,fun _ _ _ _ _=>rfl⟩
theorem bC.{u}:(∀(α:Type u) (l:List α) (i:Nat),l.toArray[i]?=l[i]?)∧(∀(α:Type u) (a:α) (l:List α) (i:Nat),(a::l)[i+1]?=l[i]?)∧∀(α:Type u) (a:α) (l:List α),(a::l)[0]?=some a:=⟨fun _ _ _=>by simp,fun _ _ _ _=>by simp,fun _ _ _=>by simp⟩
theorem KD:∀a b c:Prop,(a∧b→c)↔(a→b→c):=fun _ _ _=>and_imp
theorem KE.{u}:∀(α:Sort u) (p:α→Prop) (q:(∃x,p x)→Prop),(∀h,q h)↔∀x h,q ⟨x,h⟩:=fun _ _ _=>forall_exists_index
theorem ak.{u} {α:Sort u} (e:α):∃z,e=z:=⟨e,rfl⟩
theorem ae {p:Prop} (h:p):Hid p:=Lib.hid h
theorem aao {G T:Prop} (k:G) (e:Hid G→T:=by intro h;(try simp only[dF]);exact h.out):T:=e (Lib.hid k)
theorem au {G T:Prop} (k:G) (e:Hid G→T:=by intro h;(try simp only[KD,KE]);exact h.out):Hid T:=e (Lib.hid k)
theorem aB {P:Program} {f:FuncId} {a:Array Value} {w:World} {Q Q':Ending→World→Prop} (h:Calls P f a w Q) (k:Hid (∀e w',Q e w'→Q' e w')):Calls P f a w Q':=h.mono k.out
theorem ai.{u,v} {α:Sort u} {β:α→Sort v} {p:∀a,β a→Prop}:∀a b,p a b→p a b:=fun _ _ h=>h
structure Fr (S:Nat→Prop) (w w':World):Prop where
  os:w'.os=w.os
  tape:w'.tape=w.tape
  output:w'.output=w.output
  size:w.heap.size≤w'.heap.size
  block:∀k,k<w.heap.size→¬S k→w'.heap[k]? =w.heap[k]?
def No:Nat→Prop:=fun _=>False
section
variable {S S' T:Nat→Prop} {a b c w w' w1 w2:World}
theorem Fr.refl (S:Nat→Prop) (w:World):Fr S w w:=⟨rfl,rfl,rfl,Nat.le_refl _,fun _ _ _=>rfl⟩
theorem Fr.mono (h:Fr S a b) (hS:∀k,k<a.heap.size→S k→S' k):Fr S' a b:=
  ⟨h.os,h.tape,h.output,h.size,fun k hk hn=>h.block k hk fun hs=>hn (hS k hk hs)⟩
theorem Fr.trans (h:Fr S a b) (k:Fr T b c) (hT:∀i,i<a.heap.size→T i→S i):Fr S a c:=
  ⟨k.os.trans h.os,k.tape.trans h.tape,k.output.trans h.output,Nat.le_trans h.size k.size,
    fun i hi hn=>(k.block i (Nat.lt_of_lt_of_le hi h.size) fun ht=>hn (hT i hi ht)).trans (h.block i hi hn)⟩
theorem Fr.after (k:Fr T b c) (h:Fr S a b) (hT:∀i,i<a.heap.size→T i→S i):Fr S a c:=h.trans k hT
theorem Fr.drew (h:Fr S a w):Fr S a w.drew:=⟨h.os,h.tape,h.output,h.size,h.block⟩
theorem Fr.drewN (h:Fr S a w) (n:Nat):Fr S a (w.drewN n):=⟨h.os,h.tape,h.output,h.size,h.block⟩
theorem Fr.alloc (h:Fr S a w) (o:Obj):Fr S a (w.alloc o):=
  ⟨h.os,h.tape,h.output,Nat.le_trans h.size (by simp),fun k hk hn=>(Below.heap_alloc w o k (Nat.lt_of_lt_of_le hk h.size)).trans (h.block k hk hn)⟩
theorem Fr.setCell (h:Fr S a w) {p:Addr} (hp:p.block<a.heap.size→S p.block) (u:Value):Fr S a (w.setCell p u):=
  ⟨h.os,h.tape,h.output,by simpa[World.setCell]using h.size,fun k hk hn=>(Below.heap_setCell w p u k (by
    rintro rfl
    exact hn (hp hk))).trans (h.block k hk hn)⟩
theorem Fr.of_below (h:Below w.heap.size w w'):Fr S w w':=⟨h.os,h.tape,h.output,h.size,fun k hk _=>h.block k hk⟩
theorem Fr.below (h:Fr S a b) {B:Nat} (hS:∀k,k<B→¬S k) (hB:B≤a.heap.size):Below B a b:=⟨h.os,h.tape,h.output,h.size,fun k hk=>h.block k (by omega) (hS k hk)⟩
theorem Fr.Md {row:Option Nat} (h:w.grownBy w' row):Fr (fun k=>some k=row) w w':=⟨h.os,h.tape,h.output,h.size,fun k hk hn=>h.block k hk hn⟩
theorem Fr.heap (h:Fr S a b) {k:Nat} {o:Obj} (hk:a.heap[k]? =some o) (hn:¬S k):b.heap[k]? =some o:=
  (h.block k (Array.getElem?_eq_some_iff.1 hk).1 hn).trans hk
theorem Fr.cell (h:Fr S a b) {p:Addr} {v:Value} (hc:a.cell? p=some v) (hn:¬S p.block):b.cell? p=some v:=
  (World.cell?_of_block (h.block p.block (World.block_lt_of_cell? a p hc) hn)).trans hc
theorem Fr.frozen (h:Fr S a b) {p:Addr} (hk:p.block<a.heap.size) (hn:¬S p.block):b.frozen? p=a.frozen? p:=World.frozen?_of_block (h.block p.block hk hn)
end
def aO (w:World) (g:Nat) (t:TypeId) (cs:Array Value):Prop:=w.heap[g]? =some (.cells cs t (0,0))
section
variable {w w':World} {g:Nat} {t:TypeId} {cs:Array Value}
theorem aO.lt (h:aO w g t cs):g<w.heap.size:=(Array.getElem?_eq_some_iff.1 h).1
theorem aO.cell (h:aO w g t cs) (i:Nat):w.cell? ⟨g,i,none⟩=cs[i]? :=cell_of_row w g i cs t (0,0) h
end
theorem aO.c0 {w:World} {g:Nat} {t:TypeId} {a0:Value} {l:List Value} (h:aO w g t (a0::l).toArray):w.cell? ⟨g,0,none⟩=some a0:=h.cell 0
theorem aO.c1 {w:World} {g:Nat} {t:TypeId} {a0 a1:Value} {l:List Value} (h:aO w g t (a0::a1::l).toArray):w.cell? ⟨g,1,none⟩=some a1:=h.cell 1
theorem aO.c2 {w:World} {g:Nat} {t:TypeId} {a0 a1 a2:Value} {l:List Value} (h:aO w g t (a0::a1::a2::l).toArray):w.cell? ⟨g,2,none⟩=some a2:=h.cell 2
theorem aO.c3 {w:World} {g:Nat} {t:TypeId} {a0 a1 a2 a3:Value} {l:List Value} (h:aO w g t (a0::a1::a2::a3::l).toArray):w.cell? ⟨g,3,none⟩=some a3:=h.cell 3
theorem aO.c4 {w:World} {g:Nat} {t:TypeId} {a0 a1 a2 a3 a4:Value} {l:List Value} (h:aO w g t (a0::a1::a2::a3::a4::l).toArray):w.cell? ⟨g,4,none⟩=some a4:=h.cell 4
theorem aO.c5 {w:World} {g:Nat} {t:TypeId} {a0 a1 a2 a3 a4 a5:Value} {l:List Value} (h:aO w g t (a0::a1::a2::a3::a4::a5::l).toArray):w.cell? ⟨g,5,none⟩=some a5:=h.cell 5
theorem aO.c6 {w:World} {g:Nat} {t:TypeId} {a0 a1 a2 a3 a4 a5 a6:Value} {l:List Value} (h:aO w g t (a0::a1::a2::a3::a4::a5::a6::l).toArray):w.cell? ⟨g,6,none⟩=some a6:=h.cell 6
theorem aO.c7 {w:World} {g:Nat} {t:TypeId} {a0 a1 a2 a3 a4 a5 a6 a7:Value} {l:List Value} (h:aO w g t (a0::a1::a2::a3::a4::a5::a6::a7::l).toArray):w.cell? ⟨g,7,none⟩=some a7:=h.cell 7
theorem aO.c8 {w:World} {g:Nat} {t:TypeId} {a0 a1 a2 a3 a4 a5 a6 a7 a8:Value} {l:List Value} (h:aO w g t (a0::a1::a2::a3::a4::a5::a6::a7::a8::l).toArray):w.cell? ⟨g,8,none⟩=some a8:=h.cell 8
theorem aO.c9 {w:World} {g:Nat} {t:TypeId} {a0 a1 a2 a3 a4 a5 a6 a7 a8 a9:Value} {l:List Value} (h:aO w g t (a0::a1::a2::a3::a4::a5::a6::a7::a8::a9::l).toArray):w.cell? ⟨g,9,none⟩=some a9:=h.cell 9
theorem aO.c10 {w:World} {g:Nat} {t:TypeId} {a0 a1 a2 a3 a4 a5 a6 a7 a8 a9 a10:Value} {l:List Value} (h:aO w g t (a0::a1::a2::a3::a4::a5::a6::a7::a8::a9::a10::l).toArray):w.cell? ⟨g,10,none⟩=some a10:=h.cell 10
theorem aO.c11 {w:World} {g:Nat} {t:TypeId} {a0 a1 a2 a3 a4 a5 a6 a7 a8 a9 a10 a11:Value} {l:List Value} (h:aO w g t (a0::a1::a2::a3::a4::a5::a6::a7::a8::a9::a10::a11::l).toArray):w.cell? ⟨g,11,none⟩=some a11:=h.cell 11
theorem aO.c12 {w:World} {g:Nat} {t:TypeId} {a0 a1 a2 a3 a4 a5 a6 a7 a8 a9 a10 a11 a12:Value} {l:List Value} (h:aO w g t (a0::a1::a2::a3::a4::a5::a6::a7::a8::a9::a10::a11::a12::l).toArray):w.cell? ⟨g,12,none⟩=some a12:=h.cell 12
theorem aO.c13 {w:World} {g:Nat} {t:TypeId} {a0 a1 a2 a3 a4 a5 a6 a7 a8 a9 a10 a11 a12 ZO:Value} {l:List Value} (h:aO w g t (a0::a1::a2::a3::a4::a5::a6::a7::a8::a9::a10::a11::a12::ZO::l).toArray):w.cell? ⟨g,13,none⟩=some ZO:=h.cell 13
theorem aO.k {w:World} {g:Nat} {t:TypeId} {a:Value} {l:List Value} (h:aO w g t l.toArray) (i:Nat) (e:l[i]? =some a:=by rfl):w.cell? ⟨g,i,none⟩=some a:=(h.cell i).trans ((List.getElem?_toArray ..).trans e)
section
variable {w w' : World} {g : Nat} {t : TypeId} {cs : Array Value}
theorem aO.frozen (h:aO w g t cs) (i:Nat):w.frozen? ⟨g,i,none⟩=false:=by unfold aO at h;simp[World.frozen?,h]
theorem aO.new (w:World) (t:TypeId) (cs:Array Value):aO (w.alloc (.cells cs t)) w.heap.size t cs:=heap_alloc_new w _
theorem aO.drew (h:aO w g t cs):aO w.drew g t cs:=h
theorem aO.drewN (h:aO w g t cs) (n:Nat):aO (w.drewN n) g t cs:=h
theorem aO.alloc (h:aO w g t cs) (o:Obj):aO (w.alloc o) g t cs:=(Below.heap_alloc w o g h.lt).trans h
theorem aO.aA (h:aO w g t cs) (i:Nat) (u:Value):aO (w.setCell ⟨g,i,none⟩ u) g t (cs.setIfInBounds i u):=by unfold aO at h⊢;simp[World.setCell,Array.getElem?_modify,h]
theorem aO.far (h:aO w g t cs) {p:Addr} (hp:g≠p.block) (u:Value):aO (w.setCell p u) g t cs:=(Below.heap_setCell w p u g hp).trans h
theorem aO.fr {S:Nat→Prop} (h:aO w g t cs) (hf:Fr S w w') (hn:¬S g):aO w' g t cs:=hf.heap h hn
theorem aO.IC {g':Nat} {t':TypeId} {cs':Array Value} (h:aO w g t cs) (h':aO w g' t' cs') (hne:t≠t'):g≠g':=by rintro rfl;unfold aO at h h';rw[h]at h';injection h' with h';injection h' with _ ht;exact hne ht
end
def Rd (P:Nat→Prop) (w:World) (A:Option Addr) (xs:List Value):Prop:=
  xs≠[]→∃ad,A=some ad∧P ad.block∧ad.spot=none∧∀j u,xs[j]? =some u→w.cell? ⟨ad.block,ad.off+j,none⟩=some u
section
variable {P P':Nat→Prop} {w w':World} {A:Option Addr} {xs:List Value}
theorem Rd.nil (P:Nat→Prop) (w:World) (A:Option Addr):Rd P w A []:=fun h=>absurd rfl h
theorem Rd.fr {S:Nat→Prop} (h:Rd P w A xs) (hf:Fr S w w') (hn:∀k,P k→¬S k):Rd P w' A xs:=fun hx=>by
  obtain⟨ad,e,hp,hs,hc⟩:=h hx
  exact⟨ad,e,hp,hs,fun j u hu=>hf.cell (hc j u hu) (hn _ hp)⟩
theorem Rd.mono (h:Rd P w A xs) (hP:∀k,k<w.heap.size→P k→P' k):Rd P' w A xs:=fun hx=>by
  obtain⟨ad,e,hp,hs,hc⟩:=h hx
  refine⟨ad,e,hP _ ?_ hp,hs,hc⟩
  obtain⟨u,hu⟩:∃u,xs[0]? =some u:=by
    cases xs with
    |nil=>exact absurd rfl hx
    |cons x l=>exact⟨x,rfl⟩
  have hlt:=World.block_lt_of_cell? w ⟨ad.block,ad.off+0,none⟩ (hc 0 u hu)
  exact hlt
theorem Rd.Rh (h:Rd P w A xs) {n c k:Nat} (hk:k<n) (hc:n≤c) (m:Nat):Rd P w (if c=k then A else A.map (·.add m)) (xs.drop m):=fun hx=>by
  obtain⟨ad,rfl,hp,hs,hcell⟩:=h (by rintro rfl;simp at hx)
  have hne:¬c=k:=by omega
  refine⟨ad.add m,by simp[hne],by unfold Addr.add;split<;>exact hp,by unfold Addr.add;split<;>first|exact hs|rfl,fun j u hu=>?_⟩
  rw[List.getElem?_drop]at hu
  have:=hcell _ u hu
  unfold Addr.add
  split
  · rename_i h0;subst h0;simpa using this
  · simpa[Nat.add_assoc]using this
theorem Rd.adr (h:Rd P w A xs) (m:Nat):Rd P w A (xs.take m):=fun hx=>by
  obtain⟨ad,e,hp,hs,hc⟩:=h (by rintro rfl;simp at hx)
  refine⟨ad,e,hp,hs,fun j u hu=>hc j u ?_⟩
  rw[List.getElem?_take]at hu
  split at hu
  · exact hu
  · cases hu
theorem Rd.vM {base:Nat} {e:TypeId} {size n c:Nat} (h:w.ownsRow base e size (.slice A n c) n xs):Rd (fun k=>(Value.slice A n c).ownBlock=some k) w A xs:=fun hx=>by
  rcases h.2 with⟨hv,rfl⟩|⟨g,cap,cur,hv,hb,hg,hnc,hcm,hcs,ht⟩
  · have:=h.1
    simp at this
    exact absurd this hx
  · injection hv with hA hn hcc
    subst hA
    refine⟨⟨g,0,none⟩,rfl,rfl,rfl,fun j u hu=>?_⟩
    have:=h.cells (g:=g) rfl j u hu
    rwa [show(⟨g,0,none⟩:Addr).add j=⟨g,0+j,none⟩by unfold Addr.add;split<;>simp_all]at this
end
theorem Rd.new (w:World) (t:TypeId) (cs:Array Value) (xs:List Value) (h:cs.toList=xs):Rd (fun k=>k=w.heap.size) (w.alloc (.cells cs t)) (some ⟨w.heap.size,0,none⟩) xs:=fun _=>
  ⟨_,rfl,rfl,rfl,fun j u hu=>by
    have:=(aO.new w t cs).cell (0+j)
    rw[this,Nat.zero_add,←Array.getElem?_toList,h,hu]⟩
theorem Rd.newAt {w:World} {t:TypeId} {cs:Array Value} {xs:List Value} {g:Nat} (hg:w.heap.size=g) (h:cs.toList=xs):Rd (fun k=>k=g) (w.alloc (.cells cs t)) (some ⟨g,0,none⟩) xs:=by subst hg;exact Rd.new w t cs xs h
theorem _root_.Go.World.ownsRow.weaken {w:World} {base base':Nat} {e:TypeId} {size n:Nat} {v:Value} {xs:List Value} (h:w.ownsRow base e size v n xs) (hb:base'≤base):w.ownsRow base' e size v n xs:=by refine⟨h.1,?_⟩;(rcases h.2 with hn|⟨g,cap,cur,hv,hg,rest⟩);(·exact .inl hn);(·exact .inr ⟨g,cap,cur,hv,Nat.le_trans hb hg,rest⟩)
theorem _root_.Go.World.ownsRow.fr {w w':World} {S:Nat→Prop} {base:Nat} {e:TypeId} {size n:Nat} {v:Value} {xs:List Value} (h:w.ownsRow base e size v n xs) (hf:Fr S w w') (hn:∀k,v.ownBlock=some k→¬S k):w'.ownsRow base e size v n xs:=by refine⟨h.1,?_⟩;(rcases h.2 with hv|⟨g,cap,cur,rfl,hb,hg,rest⟩);(·exact .inl hv);(·exact .inr ⟨g,cap,cur,rfl,hb,hf.heap hg (hn g rfl),rest⟩)
theorem flat_length {α β:Type} (f:α→List β) (size:Nat) (hf:∀a,(f a).length=size) (l:List α):(l.flatMap f).length=l.length*size:=by induction l with|nil=>(simp)|cons a l ih=>(simp only[List.flatMap_cons,List.length_append,List.length_cons,ih,hf,Nat.add_mul,Nat.one_mul];omega)
theorem flat_get {α β:Type} (f:α→List β) (size:Nat) (hf:∀a,(f a).length=size):∀(l:List α) (k:Nat) (a:α),l[k]? =some a→∀j,j<size→(l.flatMap f)[k*size+j]? =(f a)[j]?
  |[],k,a,h,_,_=>by simp at h
  |b::l,0,a,h,j,hj=>by
    simp only[List.getElem?_cons_zero,Option.some.injEq]at h
    subst h
    simp only[List.flatMap_cons,Nat.zero_mul,Nat.zero_add]
    rw[List.getElem?_append_left (by rw[hf];exact hj)]
  |b::l,k+1,a,h,j,hj=>by
    simp only[List.getElem?_cons_succ]at h
    simp only[List.flatMap_cons]
    rw[List.getElem?_append_right (by rw[hf,Nat.add_mul];omega),hf,←flat_get f size hf l k a h j hj]
    congr 1
    rw[Nat.add_mul]
    omega
theorem Rd.form {P:Nat→Prop} {w:World} {A:Option Addr} {xs:List Value} (h:Rd P w A xs) (hx:xs≠[]):∃g off,A=some ⟨g,off,none⟩∧P g∧∀j u,xs[j]? =some u→w.cell? ⟨g,off+j,none⟩=some u:=by obtain⟨⟨g,off,sp⟩,e,hp,hs,hc⟩:=h hx;simp only at hs;subst hs;exact⟨g,off,e,hp,hc⟩
def lh (l:List UInt8):List Value:=l.map fun x=>.int .u8 x.toNat
@[simp] theorem EU (l:List UInt8):(lh l).length=l.length:=by simp[lh]
theorem vN (l m:List UInt8):lh (l++m)=lh l++lh m:=by simp[lh]
theorem Me (l:List UInt8) (k:Nat):(lh l).drop k=lh (l.drop k):=by simp[lh,List.map_drop]
theorem EW (l:List UInt8) (k:Nat):(lh l).take k=lh (l.take k):=by simp[lh,List.map_take]
section
variable {P:Program} (w:World)
theorem zF (ad:Addr) (hs:ad.spot=none) (j:Nat):ad.add j=⟨ad.block,ad.off+j,none⟩:=by cases ad;simp at hs;subst hs;unfold Addr.add;split<;>simp_all
theorem Rd.adds {Pr:Nat→Prop} {ad:Addr} {xs:List Value} (h:Rd Pr w (some ad) xs):∀j u,xs[j]? =some u→w.cell? (ad.add j)=some u:=fun j u hu=>by
  obtain⟨ad',e,_,hs,hc⟩:=h (by rintro rfl;simp at hu)
  injection e with e
  subst e
  rw[zF _ hs]
  exact hc j u hu
theorem MC (bs:List UInt8):∀s:ByteArray,(bs.map fun x=>(x.toNat:Int)).foldl (fun r n=>r.push (UInt8.ofNat n.toNat)) s=⟨(s.data.toList++bs).toArray⟩:=by induction bs with|nil=>(intro s;simp)|cons x l ih=>(intro s;simp only[List.map_cons,List.foldl_cons];rw[ih];congr 1;simp[ByteArray.push])
theorem eU {Pr:Nat→Prop} (src dst e:TypeId) (hs:P.underlying src=some (.slice e)) (he:P.underlying e=some (.int .u8)) (hd:P.underlying dst=some .string) (A:Option Addr) (n c:Nat) (bs:List UInt8) (hn:n=bs.length) (hr:Rd Pr w A (lh bs)):(convert src dst (.slice A n c)).run P w=.ok (.string ⟨bs.toArray⟩) w:=by subst hn;rw[run_convert_bytes_string w src dst e A _ c hs he hd];(cases bs with|nil=>(cases A with|none=>(simp[Conv.bytesToString];rfl)|some ad=>((have h:(loadCells ad 0).run P w=.ok (([]:List Int).map (Value.int .u8)).toArray w:=by simp[loadCells,loadCellsFrom]);exact run_bytesToString w ad 0 c [] h))|cons x l=>(obtain⟨ad,rfl,_,_,_⟩:=hr (by simp[lh]);(have h:(loadCells ad (x::l).length).run P w=.ok (((x::l).map fun x=>(x.toNat:Int)).map (Value.int .u8)).toArray w:=by have h0:=run_loadCells_list (P:=P) (w:=w) ad (lh (x::l)) (fun j v hv=>hr.adds w j v hv);have e1:(lh (x::l)).length=(x::l).length:=EU _;(have e2:((x::l).map fun x=>(x.toNat:Int)).map (Value.int .u8)=lh (x::l):=by unfold lh;rw[List.map_map];rfl);rw[e1]at h0;rw[h0,e2]);rw[run_bytesToString w ad _ c _ h,MC];rfl))
theorem MF (base:Nat) (t ty e:TypeId) (i:TypeInfo) (size:Nat) (ht:P.underlying t=some (.slice e)) (hi:P.info? e=some i) (v:Value) (n:Nat) (xs:List Value) (hown:w.ownsRow base e size v n xs) (A:Option Addr) (c:Nat):(Builtin.append_ #[t,t] ty #[v,.slice A 0 c]).run P w=.ok v w:=by(have hf:(Builtin.firstCells i.size 0 (.slice A 0 c)).run P w=.ok #[] w:=by cases A<;>simp[Builtin.firstCells,loadCells,loadCellsFrom]);(rcases hown.2 with⟨rfl,rfl⟩|⟨g,cap,cur,rfl,_,_,hnc,_⟩);(·cases A<;>simp[Builtin.append_,run_underlying ht,sizeOf,typeInfo,hi,Builtin.lenOf,Builtin.firstCells,loadCells,loadCellsFrom]);(·cases A<;>simp[Builtin.append_,run_underlying ht,sizeOf,typeInfo,hi,Builtin.lenOf,Builtin.firstCells,hnc,storeCells,loadCells,loadCellsFrom])
theorem Ri {Pr:Nat→Prop} (base:Nat) (t ty e:TypeId) (z:Value) (size bytes:Nat) (ht:P.underlying t=some (.slice e)) (hinfo:(P.info? e).map (fun i=>(i.zero,i.size,i.bytes))=some (some z,size,bytes)) (hzs:z.cells.size=size) (hsz:0<size) (v:Value) (n:Nat) (xs:List Value) (hown:w.ownsRow base e size v n xs) (A:Option Addr) (m c:Nat) (news:List Value) (hl:news.length=m*size) (hr:Rd Pr w A news) (h1:∀u∈news,u.oneCell'=true) (hbytes:(n+m)*bytes≤140737488355328) (hb0:0<bytes) (hbase:base≤w.heap.size):∃v' w',(Builtin.append_ #[t,t] ty #[v,.slice A m c]).run P w=.ok v' w'∧w'.ownsRow base e size v' (n+m) (xs++news)∧w.grownBy w' v.ownBlock∧(v'.ownBlock=v.ownBlock∨v'.ownBlock=some w.heap.size):=by obtain⟨i,hi,hz,hsize,hby⟩:=info_parts hinfo;(have h63:n+m≤maxLen:=by have:(n+m)*1≤(n+m)*bytes:=Nat.mul_le_mul_left _ hb0;unfold maxLen;omega);(rcases Nat.eq_zero_or_pos m with rfl|hm);(·have hn:=List.eq_nil_of_length_eq_zero (by simpa using hl);subst hn;exact⟨v,w,MF w base t ty e i size ht hi v n xs hown A c,by simpa using hown,World.grownBy.refl w _,.inl rfl⟩);(·(have hne:news≠[]:=by rintro rfl;have:=Nat.mul_pos hm hsz;simp only[List.length_nil]at hl;omega);obtain⟨ad,rfl,_,_,_⟩:=hr hne;obtain⟨v',w',hrun,h2,h3,_,h5⟩:=run_append_own_at (P:=P) w base t ty e i z size bytes ht hi hz hsize hby hzs hsz v n xs hown ad m c news hl (hr.adds w) h1 h63 hbytes hbase;exact⟨v',w',hrun,h2,h3,h5⟩)
theorem dm {Pr:Nat→Prop} {ops:Array Oper} {rest:List Oper} {o:Oper} {a:Act} {Q:Exit→Act→World→Prop} (hgd:o.guard=none) (s x:Operand) (t:TypeId) (ho:o.op=.call {callee:=.builtin .append,args:=#[s,x],argTypes:=#[t,t]}) (base:Nat) (e:TypeId) (z:Value) (size bytes:Nat) (ht:P.underlying t=some (.slice e)) (hinfo:(P.info? e).map (fun i=>(i.zero,i.size,i.bytes))=some (some z,size,bytes)) (hzs:z.cells.size=size) (hsz:0<size) (v:Value) (n:Nat) (xs:List Value) (hs:a.eval s=v) (hown:w.ownsRow base e size v n xs) (A:Option Addr) (m c:Nat) (news:List Value) (hx:a.eval x=.slice A m c) (hl:news.length=m*size) (hr:Rd Pr w A news) (h1:∀u∈news,u.oneCell'=true) (hbytes:(n+m)*bytes≤140737488355328) (hb0:0<bytes) (hbase:base≤w.heap.size) (h:∀v' w',w'.ownsRow base e size v' (n+m) (xs++news)→Fr (fun k=>v.ownBlock=some k) w w'→(v'.ownBlock=v.ownBlock∨v'.ownBlock=some w.heap.size)→wpList P ops Q rest (a.put o.dst v') w'):wpList P ops Q (o::rest) a w:=by(refine wpList_plain hgd fun K hK=>?_);obtain⟨v',w',hrun,h2,h3,h4⟩:=Ri (P:=P) w base t o.type e z size bytes ht hinfo hzs hsz v n xs hown A m c news hl hr h1 hbytes hb0 hbase;unfold Oper.wp execOp;simp only[ho,resolve,invoke,builtin,Sem.run_bind,Sem.run_pure,Result.andThen_ok,List.map_toArray,List.map_cons,List.map_nil,hs,hx,hrun];exact hK _ _ (h v' w' h2 ((Fr.Md h3).mono fun k _ hk=>hk.symm) h4)
end
theorem ads (a:Int):bits .and .i64 a 15=a%16:=by(have h:∀x:BitVec 64,(x&&&15#64).toNat=x.toNat%16:=fun x=>by have:=Nat.and_two_pow_sub_one_eq_mod x.toNat 4;simpa using this);(show IntKind.i64.wrap ((BitVec.ofInt 64 a&&&15#64).toNat:Int)=a%16);rw[h,BitVec.toNat_ofInt,IntKind.wrap_i64];omega
end Go.Proofs.YthcbjeeajoliiaaGreatDoor
