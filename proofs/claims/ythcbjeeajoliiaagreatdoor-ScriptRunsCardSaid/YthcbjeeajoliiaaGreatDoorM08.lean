/- Lemmas for ScriptRuns. -/
import Derived.Laws.RangeAny
import Derived.Lib.DecodeN
import Derived.LoopTactic
import Derived.Laws.IdiomCopy
import Derived.Lib.BufferWrite
import Derived.Test.YthcbjeeajoliiaaGreatDoorM07
set_option maxRecDepth 100000
set_option maxHeartbeats 4000000
set_option linter.unusedVariables false
set_option linter.unusedSimpArgs false
namespace Go.Proofs.YthcbjeeajoliiaaGreatDoor
open Go.RowKit
open Cr (Str)
open Tryz
theorem Az (s:Str) (i:Nat):(⟨s.toArray⟩:ByteArray).get! i=s.getD i 0:=by(show(s.toArray)[i]! =_);rw[List.getD_eq_getElem?_getD];(by_cases h:i<s.length);(·simp[h]);(·simp[h];rfl)
theorem WG (s:Str) (pos:Nat) (c:UInt8) (hc:s[pos]? =some c) (ha:128≤c.toNat):1≤(Utf8.decode ⟨s.toArray⟩ pos).2∧128≤(Utf8.decode ⟨s.toArray⟩ pos).1∧∀k,k<(Utf8.decode ⟨s.toArray⟩ pos).2→∃d,s[pos+k]? =some d∧128≤d.toNat:=by
 obtain⟨hlt,hcc⟩:=List.getElem?_eq_some_iff.1 hc;(have hsz:pos<(⟨s.toArray⟩:ByteArray).size:=by rw[dM];exact hlt);have h0:(⟨s.toArray⟩:ByteArray)[pos]'hsz=c:=hcc;obtain⟨h1,h2⟩:=decode_high ⟨s.toArray⟩ pos hsz (by rw[h0];exact ha);refine⟨h2,h1,?_⟩;rw[Lib.decode_at,Az,Az,Az,Az,dM];(have g0:s.getD pos 0=c:=by rw[List.getD_eq_getElem?_getD,hc];rfl);(have key:∀k,pos+k<s.length→128≤(s.getD (pos+k) 0).toNat→∃d,s[pos+k]? =some d∧128≤d.toNat:=fun k hk h=>by refine⟨s[pos+k],by simp[hk],?_⟩;rw[List.getD_eq_getElem?_getD]at h;simpa[hk]using h);have k0:∃d,s[pos+0]? =some d∧128≤d.toNat:=⟨c,by simpa using hc,ha⟩;rw[g0];unfold Lib.decodeN;have e1:=key 1;have e2:=key 2;have e3:=key 3;generalize (s.getD (pos+1) 0).toNat=b1 at*;generalize (s.getD (pos+2) 0).toNat=b2 at*;generalize (s.getD (pos+3) 0).toNat=b3 at*;(repeat' split);(all_goals intro k hk);(all_goals simp only at hk)
 all_goals
  (have hk4:k=0∨k=1∨k=2∨k=3:=by omega);(rcases hk4 with rfl|rfl|rfl|rfl);(·exact k0)
  · first
      |(exfalso;omega)
      |exact e1 (by omega) (by omega)
  · first
      |(exfalso;omega)
      |exact e2 (by omega) (by omega)
  · first
      |(exfalso;omega)
      |exact e3 (by omega) (by omega)
def okV (c:UInt8):Bool:=!(decide (c<32)&&c !=9||c==127)
theorem Rn (c:UInt8):okV c=!(decide (c.toNat<32)&&!(c.toNat==9)||c.toNat==127):=by(have h:∀x:Fin 256,okV (UInt8.ofNat x.val)=!(decide (x.val<32)&&!(x.val==9)||x.val==127):=by decide+kernel);have:=h ⟨c.toNat,c.toNat_lt⟩;simpa using this
theorem WH (s:Str) (f:UInt8→Bool) (n:Nat):∀pos,(∀k,k<n→∃d,s[pos+k]? =some d∧f d=true)→(s.drop pos).all f=(s.drop (pos+n)).all f:=by
 induction n with
 |zero=>intro pos _;rfl
 |succ n ih=>
  intro pos h;obtain⟨d,hd,hf⟩:=h 0 (by omega);rw[Nat.add_zero]at hd;obtain⟨h1,rfl⟩:=List.getElem?_eq_some_iff.1 hd
  rw[List.drop_eq_getElem_cons h1,List.all_cons,hf,Bool.true_and,ih (pos+1) (fun k hk=>by
    have:=h (k+1) (by omega)
    rwa [show pos+1+k=pos+(k+1)by omega]),show pos+1+n=pos+(n+1)by omega]
theorem Jd (w:World) (s:Str):Calls prog 176 #[.string ⟨s.toArray⟩] w fun e w'=>e=.returned (.bool (Cr.value s))∧Fr No w w':=by
 have hv0:Cr.value s=(s.drop 0).all okV:=rfl;obtain⟨V,hV⟩:=ak (Cr.value s);rw[hV]at hv0⊢;have Hv0:=ae hv0;clear hv0 hV;(have hfi:∀pos,Fr No w (w.iter ⟨s.toArray⟩ pos):=fun pos=>(Fr.refl _ _).alloc _);go_enter func176,ntmps176;go_wp2;go_loopw [4] (fun u w'=>∃pos:Nat,w'=w.iter ⟨s.toArray⟩ pos∧Hid (V=(s.drop pos).all okV)) (fun _ w'=>s.length-w'.iterPos w.heap.size);(case atStart=>exact⟨0,rfl,Hv0⟩)
 case round=>
  obtain⟨pos,rfl,HI⟩:=hrel;(by_cases hp:pos<s.length)
  · (have hp':pos<(⟨s.toArray⟩:ByteArray).size:=by rw[dM];exact hp);(have hnx:∀ty,(Instr.next (.pointer (some ⟨w.heap.size,0,none⟩)) true ty).run prog (w.iter ⟨s.toArray⟩ pos)=_:=fun ty=>run_next_any w _ pos ty hp');obtain⟨c,hc⟩:∃c,s[pos]? =some c:=⟨s[pos],by simp[hp]⟩;(by_cases ha:c.toNat<128)
    · (have hdec:Utf8.decode ⟨s.toArray⟩ pos=(c.toNat,1):=by have h0:(⟨s.toArray⟩:ByteArray)[pos]'hp'=c:=(List.getElem?_eq_some_iff.1 hc).2;have:=decode_ascii ⟨s.toArray⟩ pos hp' (by rw[h0];exact ha);rwa [h0]at this);rw[hdec]at hnx;(have hst:(s.drop pos).all okV=(okV c&&(s.drop (pos+1)).all okV):=by obtain⟨h1,rfl⟩:=List.getElem?_eq_some_iff.1 hc;rw[List.drop_eq_getElem_cons h1,List.all_cons]);have hok:=Rn c;have HS:=ae (And.intro HI (And.intro hst hok));obtain⟨q,hq⟩:=ak (c.toNat);rw[hq]at hnx ha HS;clear hst hok hdec hc hq HI;(have ajg:(q:Int)<128:=by omega);(by_cases hbad:(q<32∧q≠9)∨q=127)
      · have hVf:Hid (V=false):=ae (by
          obtain⟨h1,h2,h3⟩:=HS.out
          rw[h1.out,h2,h3]
          rcases hbad with⟨h4,h5⟩|h4
          · simp[h4,h5]
          · simp[h4])
        (rcases hbad with⟨h4,h5⟩|rfl);(·(have h4':(q:Int)<32:=by omega);(have h5':((q:Int)==9)=false:=by simp;omega);go_wp2_with fail;go_ret;exact⟨by rw[hVf.out];rfl,hfi _⟩);(·go_wp2_with fail;go_ret;exact⟨by rw[hVf.out];rfl,hfi _⟩)
      · have hVt:Hid (V=(s.drop (pos+1)).all okV):=ae (by
          obtain⟨h1,h2,h3⟩:=HS.out
          rw[h1.out,h2,h3]
          have e1:¬q=127:=fun h=>hbad (.inr h)
          have e2:¬(q<32∧q≠9):=fun h=>hbad (.inl h)
          by_cases e3:q=9
          · simp[e3]
          · have e4:¬q<32:=fun h=>e2 ⟨h,e3⟩
            simp[e1,e4])
        (have e1:((q:Int)==127)=false:=by simp;omega);(by_cases e3:q=9);(·subst e3;go_wp2_with fail;go_roundw;(case measure=>simp;omega);(case rel=>exact⟨pos+1,rfl,hVt⟩));(·(have e4:(32:Int)≤(q:Int):=by omega);go_wp2_with fail;go_roundw;(case measure=>simp;omega);(case rel=>exact⟨pos+1,rfl,hVt⟩))
    · obtain⟨hw1,hr,hk⟩:=WG s pos c hc (by omega)
      have hst:=WH s okV _ pos (fun k hk'=>by
        obtain⟨d,hd1,hd2⟩:=hk k hk'
        refine⟨d,hd1,?_⟩
        rw[Rn]
        have x1:¬d.toNat<32:=by omega
        have x2:¬d.toNat=127:=by omega
        simp[x1,x2])
      obtain⟨rn,hrn⟩:=ak ((Utf8.decode ⟨s.toArray⟩ pos).1);obtain⟨wd,hwd⟩:=ak ((Utf8.decode ⟨s.toArray⟩ pos).2);rw[hwd]at hw1 hst hnx;rw[hrn]at hr hnx;have HS:=ae (HI.out.trans hst);clear hrn hwd hst hk hc HI;(have hr':(128:Int)≤(rn:Int):=by omega);(have e1:((rn:Int)==127)=false:=by simp;omega);go_wp2_with fail;go_roundw;(case measure=>simp;omega);(case rel=>exact⟨pos+wd,rfl,HS⟩)
  · (have hp':¬pos<(⟨s.toArray⟩:ByteArray).size:=by rw[dM];exact hp);(have hnx:∀ty,(Instr.next (.pointer (some ⟨w.heap.size,0,none⟩)) true ty).run prog (w.iter ⟨s.toArray⟩ pos)=_:=fun ty=>run_next_end w _ pos ty hp');have hVt:Hid (V=true):=ae (by rw[HI.out,List.drop_of_length_le (by omega)];rfl);go_wp2_with fail;go_ret;exact⟨by rw[hVt.out];rfl,hfi _⟩
def low (c:UInt8):UInt8:=if 65≤c∧c≤90 then c+32 else c
theorem Za (c:UInt8):(low c).toNat=if 65≤c.toNat∧c.toNat≤90 then c.toNat+32 else c.toNat:=by(have h:∀x:Fin 256,(low (UInt8.ofNat x.val)).toNat=if 65≤x.val∧x.val≤90 then x.val+32 else x.val:=by decide+kernel);have:=h ⟨c.toNat,c.toNat_lt⟩;simpa using this
theorem modify_last {α:Type} (x:α) (f:α→α):∀l:List α,(l++[x]).modify l.length f=l++[f x]
  |[]=>rfl
  |a::l=>by
    show a::(l++[x]).modify l.length f=_
    rw[modify_last x f l]
    rfl
theorem Ci:(prog.info? 5).map (fun i=>(i.zero,i.size,i.bytes))=some (some (.int .u8 0),1,1):=by kernel_rfl
theorem JZ (w:World) (a b:Array Value) (t:TypeId):(w.alloc (.cells a t)).setRow w.heap.size b=w.alloc (.cells b t):=by simp only[World.setRow,World.alloc];congr 1;apply Array.ext';simp only[Array.toList_modify,Array.toList_push];rw[show w.heap.size=w.heap.toList.length by simp,modify_last]
theorem yF (w:World) (s:Str) (hs:s.length≤1000000):Calls prog 206 #[.string ⟨s.toArray⟩] w fun e w'=>e=.returned (.string ⟨(Cr.lower s).toArray⟩)∧Fr No w w':=by have hl0:Cr.lower s=s.map low:=rfl;(have hs':(s.length:Int)≤1000000:=by omega);have hmk:=qQ (P:=prog) 51 5 _ 1 1 underlying51 Ci (s.length:Int) (by omega) (by omega) (by omega) w;(have hcp:∀ty,(Builtin.copy_ #[51,9] ty #[.slice (some ⟨w.heap.size,0,none⟩) s.length s.length,.string ⟨s.toArray⟩]).run prog (w.alloc (.cells (madeCells #[.int .u8 0] s.length) 5))=.ok (.int .i64 s.length) (w.alloc (.cells (lh s).toArray 5)):=fun ty=>by have h:=Lib.run_copy_row_string (P:=prog) (w.alloc (.cells (madeCells #[.int .u8 0] s.length) 5)) 51 9 ty 5 w.heap.size 0 s.length s.length ⟨s.toArray⟩ _ 5 underlying51 (by kernel_rfl) (heap_alloc_new w _) (by rw[dM];exact Nat.le_refl _) (by rw[dM];simp[madeCells]);rw[h,JZ,dM];congr 2;simp[madeCells,Lib.byteCells,lh,dM]);obtain⟨L,hL⟩:=ak (Cr.lower s);rw[hL]at hl0⊢;have Hl0:=ae hl0;clear hl0 hL;(have ag5:((s.length:Int)).toNat=s.length:=by omega);rw[ag5]at hmk;go_enter func206,ntmps206;have hb0:aO (w.alloc (.cells (lh s).toArray 5)) w.heap.size 5 (lh s).toArray:=aO.new _ _ _;have hf0:Fr No w (w.alloc (.cells (lh s).toArray 5)):=(Fr.refl _ _).alloc _;obtain⟨g,hg⟩:=ak (w.heap.size);have Hg:=ae hg;rw[hg]at hb0 hmk;simp only[hg]at hcp;go_wp2_with fail;clear hg hmk hcp;go_loopg [4,5,14] s.length (fun gm u4 u5 i wr=>∃k:Nat,k+gm=s.length∧i=.int .i64 k∧aO wr g 5 (lh ((s.take k).map low++s.drop k)).toArray∧Fr No w wr);(case atStart=>exact⟨0,by omega,rfl,by simpa using hb0,hf0⟩);(case round=>obtain⟨k,hk,rfl,hb,hf⟩:=hrel;(by_cases hlt:k<s.length);(·(have hlt':(k:Int)<(s.length:Int):=by omega);obtain⟨c,hc⟩:∃c,s[k]? =some c:=⟨s[k],by simp[hlt]⟩;(have hck:(lh ((s.take k).map low++s.drop k)).toArray[k]? =some (.int .u8 c.toNat):=by rw[List.getElem?_toArray];unfold lh;rw[List.getElem?_map,List.getElem?_append_right (by simp;omega)];simp[Nat.min_eq_left (Nat.le_of_lt hlt),hc]);have q0:=(hb.cell k).trans hck;have z0:=hb.frozen k;have hb2:=hb.aA k (.int .u8 (low c).toNat);(have hnext:(lh ((s.take k).map low++s.drop k)).toArray.setIfInBounds k (.int .u8 (low c).toNat)=(lh ((s.take (k+1)).map low++s.drop (k+1))).toArray:=by apply Array.ext_getElem?;intro i;rw[Array.getElem?_setIfInBounds,List.getElem?_toArray,List.getElem?_toArray];unfold lh;(have hsz:k<(List.map (fun x=>Value.int .u8 (x.toNat:Int)) ((s.take k).map low++s.drop k)).toArray.size:=by simp;omega);(rcases Nat.lt_trichotomy i k with h|h|h);(·rw[if_neg (by omega),List.getElem?_map,List.getElem?_map,List.getElem?_append_left (by simp;omega),List.getElem?_append_left (by simp;omega),List.getElem?_map,List.getElem?_map,List.getElem?_take,List.getElem?_take,if_pos h,if_pos (by omega)]);(·subst h;rw[if_pos rfl,if_pos hsz,List.getElem?_map,List.getElem?_append_left (by simp;omega),List.getElem?_map,List.getElem?_take,if_pos (by omega),hc];rfl);(·rw[if_neg (by omega),List.getElem?_map,List.getElem?_map,List.getElem?_append_right (by simp;omega),List.getElem?_append_right (by simp;omega)];congr 1;rw[List.getElem?_drop,List.getElem?_drop];congr 1;simp;omega));rw[hnext]at hb2;(have hgs:w.heap.size≤g:=by rw[Hg.out];exact Nat.le_refl _);have hf2:Fr No w (wr.setCell ⟨g,k,none⟩ (.int .u8 (low c).toNat)):=hf.setCell (fun h=>absurd h (by show¬g<_;omega)) _;have hlow:=Za c;obtain⟨q,hq⟩:=ak (c.toNat);(have adA:q<256:=by rw[←hq];exact c.toNat_lt);rw[hq]at q0 hlow;(by_cases hcap:65≤q∧q≤90);(·rw[if_pos hcap]at hlow;obtain⟨h65,h90⟩:=hcap;(have alC:(65:Int)≤(q:Int):=by omega);(have alD:(q:Int)≤90:=by omega);rw[hlow]at hb2 hf2;(have hcast:((q+32:Nat):Int)=(q:Int)+32:=by omega);rw[hcast]at hb2 hf2;have HB:=ae (And.intro hb2 hf2);clear hb2 hf2 hb hf hck hnext hlow hc hq hcast;go_wp2_with fail;go_roundg (gk-1);(case measure=>omega);(case rel=>exact⟨k+1,by omega,by go_num,HB.out.1,HB.out.2⟩));(·rw[if_neg hcap]at hlow;have hsame:wr.setCell ⟨g,k,none⟩ (.int .u8 (low c).toNat)=wr∨True:=.inr trivial;(have hb3:aO wr g 5 (lh ((s.take (k+1)).map low++s.drop (k+1))).toArray:=by rw[←hnext,hlow];(have:(lh ((s.take k).map low++s.drop k)).toArray.setIfInBounds k (.int .u8 (q:Int))=(lh ((s.take k).map low++s.drop k)).toArray:=by apply Array.ext_getElem?;intro i;rw[Array.getElem?_setIfInBounds];(by_cases h:k=i);(·subst h;rw[if_pos rfl,hck,hq];have:k<(lh ((s.take k).map low++s.drop k)).toArray.size:=(Array.getElem?_eq_some_iff.1 hck).1;rw[if_pos this]);(·rw[if_neg h]));rw[this];exact hb);have HB:=ae (And.intro hb3 hf);(have hcases:q<65∨90<q:=by omega);clear hb2 hf2 hb hf hck hnext hlow hc hq hb3 hsame hcap;(rcases hcases with h|h);(·(have h':(q:Int)<65:=by omega);go_wp2_with fail;go_roundg (gk-1);(case measure=>omega);(case rel=>exact⟨k+1,by omega,by go_num,HB.out.1,HB.out.2⟩));(·(have h':(90:Int)<(q:Int):=by omega);(have h'':(65:Int)≤(q:Int):=by omega);go_wp2_with fail;go_roundg (gk-1);(case measure=>omega);(case rel=>exact⟨k+1,by omega,by go_num,HB.out.1,HB.out.2⟩))));(·(have hlt':¬(k:Int)<(s.length:Int):=by omega);(obtain rfl:k=s.length:=by omega);rw[List.take_length,List.drop_length,List.append_nil,←Hl0.out]at hb;(have hLl:L.length=s.length:=by rw[Hl0.out];simp);(have hcv:=fun W=>eU (P:=prog) (Pr:=fun _=>True) W 51 9 5 underlying51 underlying5 underlying9 (some ⟨g,0,none⟩) s.length s.length L hLl.symm);(have hrd:Rd (fun _=>True) wr (some ⟨g,0,none⟩) (lh L):=fun _=>⟨⟨g,0,none⟩,rfl,trivial,rfl,fun j u hu=>by rw[Nat.zero_add,hb.cell j,List.getElem?_toArray];exact hu⟩);have hcv2:=hcv wr hrd;have Hf:=ae hf;clear hcv hrd hb hLl hf;go_wp2_with fail;go_ret;exact⟨rfl,Hf.out⟩))
end Go.Proofs.YthcbjeeajoliiaaGreatDoor
