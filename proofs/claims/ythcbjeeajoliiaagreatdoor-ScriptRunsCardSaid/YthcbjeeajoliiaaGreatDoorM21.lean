/- Lemmas for ScriptRuns. -/
import Derived.Test.YthcbjeeajoliiaaGreatDoorM16
import Derived.Test.YthcbjeeajoliiaaGreatDoorM20
set_option maxRecDepth 100000
set_option maxHeartbeats 4000000
set_option linter.unusedVariables false
set_option linter.unusedSimpArgs false
namespace Go.Proofs.YthcbjeeajoliiaaGreatDoor
open Go.RowKit
open Cr (Str fH BX rG)
open Tryz
structure Ny (base b1 b2 b3:Nat) (method:Str) (A:Option Addr) (n c:Nat) (Ms:List Str) (m:rG) (w:World):Prop where
  ge:base≤b3
  k1:aO w b1 9 #[.string ⟨method.toArray⟩]
  k2:aO w b2 68 #[.slice A n c]
  k3:∃vp va,aO w b3 114 #[.string ⟨m.handler.toArray⟩,vp,va]∧w.ownsRow base 212 2 vp m.params.length (qI m.params)∧w.ownsRow base 9 1 va m.allow.length (aY m.allow)∧¬va.ownBlock=some b1
  nd:m.allow.Nodup∧(∀x∈m.allow,x∈Ms)
theorem Ny.fr {base b1 b2 b3:Nat} {method:Str} {A:Option Addr} {n c:Nat} {Ms:List Str} {m:rG} {w w':World} (h:Ny base b1 b2 b3 method A n c Ms m w) (hf:Fr No w w'):Ny base b1 b2 b3 method A n c Ms m w':=by obtain⟨h1,h2,h3,⟨vp,va,h4,h5,h6,h8⟩,h7⟩:=h;exact⟨h1,h2.fr hf id,h3.fr hf id,⟨vp,va,h4.fr hf id,h5.fr hf (fun _ _=>id),h6.fr hf (fun _ _=>id),h8⟩,h7⟩
theorem qg:∀(l Ms:List Str),l.Nodup→(∀x∈l,x∈Ms)→l.length≤Ms.length
  |[],Ms,_,_=>by simp
  |x::l,Ms,hn,hs=>by
    have hx:=hs x (by simp)
    have hn':=List.nodup_cons.1 hn
    have:=qg l (Ms.erase x) hn'.2 (fun y hy=>by
      have hne:y≠x:=by rintro rfl;exact hn'.1 hy
      exact(List.mem_erase_of_ne hne).2 (hs y (by simp[hy])))
    have:=List.length_erase_of_mem hx
    have:=List.length_pos_of_mem hx
    simp only[List.length_cons]
    omega
theorem fG {w:World} {base:Nat} {e t:TypeId} {size n b:Nat} {v:Value} {xs:List Value} {cs:Array Value} (h:w.ownsRow base e size v n xs) (hb:aO w b t cs) (hne:e≠t):∀i,v.ownBlock=some i→i≠b:=by intro i hi;(rcases h.2 with⟨rfl,_⟩|⟨g,cap,cur,rfl,_,hg,_⟩);(·cases hi);(·injection hi with hi;subst hi;rintro rfl;have:=hg.symm.trans hb;injection this with this;injection this with _ h2;exact hne h2)
theorem FY {w:World} {base base':Nat} {e e':TypeId} {size size' n n':Nat} {v v':Value} {xs xs':List Value} (h:w.ownsRow base e size v n xs) (h':w.ownsRow base' e' size' v' n' xs') (hne:e≠e'):∀i,v.ownBlock=some i→¬v'.ownBlock=some i:=by intro i hi hi';(rcases h'.2 with⟨rfl,_⟩|⟨g,cap,cur,rfl,_,hg,_⟩);(·cases hi');(·injection hi' with hi';subst hi';exact fG h hg hne g hi rfl)
theorem EJ (w:World) (g:Nat) (a b c:Value):Fr (fun k=>k=g) w (((w.setCell ⟨g,0,none⟩ a).setCell ⟨g,1,none⟩ b).setCell ⟨g,2,none⟩ c):=by refine Fr.setCell (Fr.setCell (Fr.setCell (Fr.refl _ _) ?_ _) ?_ _) ?_ _<;>exact fun _=>rfl
def wB (method:Str) (l:List Str) (m:rG) (es:List fH):rG×Bool:=
  match Cr.jb method m.allow es with
  | .inl r=>(⟨r.handler,Cr.params r l,[]⟩,false)
  | .inr al=>({m with allow:=al},true)
theorem Ji (method:Str) (l:List Str):∀(es:List (List fH)) (m:rG),mX (wB method l) es m=match Cr.nG method m.allow es with| .inl r=>(⟨r.handler,Cr.params r l,[]⟩,false)| .inr al=>({m with allow:=al},true)
  |[],m=>rfl
  |e::es,m=>by
    simp only[mX,Cr.nG]
    cases h:Cr.jb method m.allow e with
    |inl r=>simp[wB,h]
    |inr al=>
      have:=Ji method l es {m with allow:=al}
      simp only[wB,h,if_true]
      exact this
theorem Nz (method:Str) (l:List fH) (k:Nat) (r:fH) (al:List Str) (hk:l[k]? =some r):Cr.jb method al (l.drop k)=if r.method=method then .inl r else Cr.jb method (if al.contains r.method then al else al++[r.method]) (l.drop (k+1)):=by rw[List.drop_eq_getElem_cons (List.getElem?_eq_some_iff.1 hk).1,(List.getElem?_eq_some_iff.1 hk).2];rfl
theorem NC (base b1 b2 b3:Nat) (method:Str) (L:List Str) (c:Nat) (A:Option Addr) (Ms:List Str) (hMs:Ms.length≤1000) (Pl:Nat→Prop) (hPl:∀k,Pl k→k<base) (m:rG) (w:World) (B:Option Addr) (d:Nat) (es:List fH) (P:Nat→Prop) (hP:∀k,P k→k<base) (hI:Ny base b1 b2 b3 method A L.length c Ms m w) (hw:base≤w.heap.size) (hr:Rd P w B (iT es)) (hes:es.length≤1000000) (hL:Rd Pl w A (aY L)) (hLc:L.length≤c) (hL0:L.length≤1000) (ML:∀x∈L,x.length≤1000000) (hG:∀r∈es,gY r∧wo r L∧r.method∈Ms):Calls prog 123 #[.slice B es.length d,.pointer (some ⟨b1,0,none⟩),.pointer (some ⟨b2,0,none⟩),.pointer (some ⟨b3,0,none⟩)] w fun e w'=>e=.returned (.bool (wB method L m es).2)∧Ny base b1 b2 b3 method A L.length c Ms (wB method L m es).1 w'∧Fr (fun k=>base≤k) w w':=by
 (have hn':(es.length:Int)≤1000000:=by omega);have HY:=ae (show wB method L m es=(match Cr.jb method m.allow es with| .inl r=>(⟨r.handler,Cr.params r L,[]⟩,false)| .inr al=>({m with allow:=al},true))from rfl);obtain⟨RY,hRY⟩:=ak (wB method L m es);rw[hRY]at HY⊢;have HG:=ae hG;have HI0:=ae hI;have HL:=ae (And.intro hL (And.intro hLc (And.intro hL0 ML)));clear hRY hG hI hL hLc ML;go_enter func123,ntmps123;go_wp2_with fail;go_loopg [10] es.length (fun gm i wr=>∃(k:Nat) (al:List Str),k+gm=es.length∧i=.int .i64 k∧Hid (Ny base b1 b2 b3 method A L.length c Ms {m with allow:=al} wr)∧Fr (fun k=>base≤k) w wr∧Hid (Cr.jb method al (es.drop k)=Cr.jb method m.allow es));(case atStart=>exact⟨0,m.allow,by omega,rfl,HI0,Fr.refl _ _,ae rfl⟩)
 case round=>
  obtain⟨k,al,hk,rfl,HI,hfr,HP⟩:=hrel;have hsz:=hfr.size;(by_cases hlt:k<es.length)
  · (have hlt':(k:Int)<(es.length:Int):=by omega);obtain⟨r,hx⟩:∃r,es[k]? =some r:=⟨es[k],by simp[hlt]⟩;obtain⟨gb,off,rfl,hgb,hcell⟩:=hr.form (fun h=>by have:=jQ es;rw[h]at this;simp at this;omega);have amu:=hP _ hgb;obtain⟨p0,p1,p2⟩:=EH (P:=P) hcell hx;(have hgn:¬(fun k=>base≤k) gb:=by show¬base≤gb;omega);have q0:=hfr.cell p0 hgn;have q1:=hfr.cell p1 hgn;have q2:=hfr.cell p2 hgn;obtain⟨hrs,hfit,hmem⟩:=HG.out r (List.mem_of_getElem? hx);have HD:=ae (HP.out.symm.trans (Nz method es k r al hx));have sX:Fr No wr (wr.alloc (.cells #[.string ⟨r.method.toArray⟩,.string ⟨r.pattern.toArray⟩,.string ⟨r.handler.toArray⟩] 137)):=(Fr.refl _ _).alloc _;have bX:=aO.new wr 137 #[.string ⟨r.method.toArray⟩,.string ⟨r.pattern.toArray⟩,.string ⟨r.handler.toArray⟩];have IX:=ae (HI.out.fr sX);obtain⟨X,hX⟩:=ak (wr.alloc (.cells #[.string ⟨r.method.toArray⟩,.string ⟨r.pattern.toArray⟩,.string ⟨r.handler.toArray⟩] 137));rw[hX]at sX bX IX;obtain⟨qb,o9⟩:=ak (wr.heap.size);rw[o9]at bX;(have amv:base≤qb:=by omega);have e0:=bX.c0;have e1:=bX.c1;have e2:=bX.c2;have m1:=IX.out.k1.c0;have fX:=hfr.trans sX (fun _ _ h=>absurd h id);have szX:=fX.size;have Hx:=ae hx;clear hx p0 p1 p2 hcell HI sX;(by_cases hm:(r.method==method)=true);(·have HE:=ae (show RY=(⟨r.handler,Cr.params r L,[]⟩,false)by rw[HY.out,HD.out,if_pos (by simpa using hm)]);have m2:=IX.out.k2.c0;have FZ:=bX.IC IX.out.k3.choose_spec.choose_spec.1 (by decide);have hne2:=IX.out.k2.IC IX.out.k3.choose_spec.choose_spec.1 (by decide);have HPa:=ae (fun W (hW:Fr No X W)=>P7 Pl W A c L r (((HL.out.1.fr fX (fun k hk h=>absurd (hPl k hk) (Nat.not_lt.2 h)))).fr hW ai) HL.out.2.1 HL.out.2.2.1 HL.out.2.2.2 hrs hfit);clear HD HP HY bX;go_wp2_with fail;clear hX o9;refine aZ (Fr (fun k=>k=b3)) [0,1,2,3,104,5,106] ?_;(iterate 4 (refine aV (fun w' hR=>And.intro (hR.cell e2 FZ) (And.intro (hR.cell e0 FZ) (And.intro (hR.cell e1 FZ) (hR.cell m2 hne2)))) ?_));refine aj fun K hK=>?_;refine(HPa.out _ ((Fr.refl _ _).drew)).mono ?_;rintro e w1 ⟨v,rfl,hown1,hf1⟩;refine hK _ _ (hf1.mono (fun _ _ h=>absurd h id)) ?_;have f1:=((Fr.refl _ _).drew).trans hf1 ai;have I1:=IX.out.fr f1;obtain⟨vp,va,hb3,_,_,_⟩:=I1.k3;obtain⟨A1,c1,rfl,_,_⟩:=aK hown1;have z0:=hb3.frozen;have hown2:=hown1.weaken (base':=base) (by show base≤X.heap.size;omega);(have hnb:¬(Value.slice A1 (Cr.params r L).length c1).ownBlock=some b3:=fun h=>by have h1:=(hown1.lt b3 h).1;have h2:=IX.out.k3.choose_spec.choose_spec.1.lt;exact absurd h1 (Nat.not_le.2 h2));have d0:=hb3.cell 0;have d1:=hb3.cell 1;have d2:=hb3.cell 2;have H1:=ae (And.intro I1 (And.intro hb3 (And.intro hown2 hown1)));clear hown1 hown2 I1 hb3 hf1;simp only[bC]at d0 d1 d2;refine aao ?_;refine aS ?_;refine aj fun K hK=>?_;refine hK _ _ (EJ _ _ _ _ _) ?_;refine aao ?_;refine aQ ?_;go_wp2_with fail;go_ret;obtain⟨I1,hb3,hown2,hown1⟩:=H1.out;rw[HE.out];have hne1:=I1.k1.IC hb3 (by decide);have hf3:=EJ w1 b3 (.string ⟨r.handler.toArray⟩) (.slice A1 (Cr.params r L).length c1) (.slice none 0 0);refine⟨rfl,⟨I1.ge,I1.k1.fr hf3 hne1,I1.k2.fr hf3 hne2,⟨_,_,((hb3.aA 0 _).aA 1 _).aA 2 _,hown2.fr hf3 (fun i hi h=>?_),⟨rfl,.inl ⟨rfl,rfl⟩⟩,fun h=>by cases h⟩,⟨by simp,by simp⟩⟩,?_⟩;(·subst h;exact hnb hi);(·refine((fX.trans f1 (fun _ _ h=>absurd h id)).trans hf3 (fun i hi h=>?_));subst h;exact I1.ge))
    · (have hm2:¬r.method=method:=fun h=>hm (by rw[h];exact beq_self_eq_true _));have HD2:=ae (show Cr.jb method (if al.contains r.method then al else al++[r.method]) (es.drop (k+1))=Cr.jb method m.allow es by rw[HD.out,if_neg hm2]);obtain⟨vp,va,hb3,lF,jK,ad3⟩:=IX.out.k3;have hnd:=IX.out.nd;have hne1:=IX.out.k1.IC hb3 (by decide);have hne2:=IX.out.k2.IC hb3 (by decide);have hlen:=qg al Ms hnd.1 hnd.2;simp only at hb3 lF jK;obtain⟨A2,c2,rfl,hc2,P9⟩:=aK jK;have d2:=hb3.c2;have z2:=hb3.frozen 2;have HC:=ae (KJ _ X A2 c2 al r.method P9 (by omega));have Hb:=ae (And.intro hb3 (And.intro lF (And.intro hnd (And.intro hne1 (And.intro hne2 hlen)))));have ahu:=ae ad3;clear ad3;have hbX:=hb3.lt;have ad4:=IX.out.ge;(have hm0:(r.method==method)=false:=by simpa using hm);have HX2:=ae (And.intro hX o9);clear HD HP HY bX hm hm2 hb3 lF hnd hne1 hne2 hlen P9
      cases hcn:al.contains r.method with
      |true=>rw[hcn]at HC HD2;have HD3:=ae (show Cr.jb method al (es.drop (k+1))=Cr.jb method m.allow es by have h:=HD2.out;rw[if_pos rfl]at h;exact h);clear HD2 hcn;go_wp2_with (go_at_call 125;refine aB HC.out ?_);refine au ?_;(first|(rintro e w' rfl rfl)|skip);go_wp2_with fail;go_roundg (gk-1);(case measure=>omega);(case rel=>exact⟨k+1,al,by omega,by go_num,IX,fX,HD3⟩)
      |false=>
       rw[hcn]at HC HD2;have HD3:=ae (show Cr.jb method (al++[r.method]) (es.drop (k+1))=Cr.jb method m.allow es by have h:=HD2.out;rw[if_neg Bool.false_ne_true]at h;exact h);have Hcn:=ae hcn;clear HD2 hcn;go_wp2_with (go_at_call 125;refine aB HC.out ?_);refine au ?_;(first|(rintro e w' rfl rfl)|skip);go_wp2_with (at_builtin;go_must (refine dm (Pr:=fun _=>True) _ rfl (.tmp 31) (.tmp 34) _ rfl base 9 _ 1 16 underlying68 tK rfl (by decide) (.slice A2 al.length c2) al.length (aY al) rfl ?a0 _ 1 1 [.string ⟨r.method.toArray⟩] rfl rfl ?a1 ?a2 ?a3 (by decide) ?a4 ?_));(case a0=>exact jK.fr ((Fr.refl No X).alloc _) (fun _ _=>id));(case a1=>exact Rd.mono (Rd.newAt rfl rfl) (fun _ _ _=>trivial));(case a2=>intro u hu;simp at hu;subst hu;rfl);(case a3=>have:=Hb.out.2.2.2.2.2;omega);(case a4=>simp;omega);intro v1 w3 hown3 hf3 hob;obtain⟨A3,c3,rfl,_,_⟩:=aK hown3;have hnb:=fG jK Hb.out.1 (by decide);(have Xd:¬(Value.slice A2 al.length c2).ownBlock=some b3:=fun h=>hnb b3 h rfl);have f3:=((Fr.refl _ X).alloc _).trans hf3 ai;have z3:=(f3.frozen (p:=⟨b3,2,none⟩) hbX Xd).trans z2;have d3:=f3.cell d2 Xd;have Hn:=ae (And.intro hnb (And.intro hob ahu.out));clear hnb hob;go_wp2_with fail;go_roundg (gk-1);(case measure=>omega)
       case rel=>
        obtain⟨hb3,lF,hnd,hne1,hne2,hlen⟩:=Hb.out;have ahw:=(hb3.fr f3 Xd).aA 2 (.slice A3 (al.length+1) c3);have ahx:=fG lF hb3 (by decide);have hn3:=fG hown3 (hb3.fr f3 Xd) (by decide);have sz3:=f3.size;(have fs:Fr (fun k=>k=b3) w3 (w3.setCell ⟨b3,2,none⟩ (.slice A3 (al.length+1) c3)):=by refine Fr.setCell (Fr.refl _ _) ?_ _;(exact fun _=>rfl));have hfa:Fr (fun k=>base≤k) X (w3.setCell ⟨b3,2,none⟩ (.slice A3 (al.length+1) c3)):=(f3.mono (fun k _ hk=>(jK.lt k hk).1)).trans fs (fun k _ hk=>by subst hk;exact ad4);refine⟨k+1,al++[r.method],by omega,by go_num,ae ⟨IX.out.ge,?_,?_,⟨_,_,ahw,?_,?_⟩,?_,?_⟩,fX.trans hfa ai,HD3⟩;(·exact(IX.out.k1.fr f3 Hn.out.2.2).fr fs hne1);(·exact(IX.out.k2.fr f3 (fun h=>fG jK IX.out.k2 (by decide) b2 h rfl)).fr fs hne2)
        · exact(lF.fr f3 (fun i hi h=>by
            have h1:=FY lF jK (by decide) i hi
            exact h1 h)).fr fs (fun i hi h=>ahx i hi h)
        · rw[gV];simp only[List.length_append,List.length_cons,List.length_nil]
          exact⟨hown3.fr fs (fun i hi h=>hn3 i hi h),fun h=>by
            rcases Hn.out.2.1 with h1|h1
            · exact Hn.out.2.2 (h1.symm.trans h)
            · rw[h1]at h
              injection h with h
              have:=IX.out.k1.lt
              omega⟩
        (·rw[List.nodup_append];refine⟨hnd.1,by simp,fun a ha b hb=>?_⟩;simp only[List.mem_singleton]at hb;subst hb;rintro rfl;have:=Hcn.out;simp at this;exact this ha);(·intro x hx;(rcases List.mem_append.1 hx with hx|hx);(·exact hnd.2 x hx);(·simp only[List.mem_singleton]at hx;subst hx;exact hmem))
  · have hlt':¬(k:Int)<(es.length:Int):=by omega
    have HE:=ae (show RY=({m with allow:=al},true)by
      have:=HP.out
      rw[List.drop_eq_nil_of_le (by omega)]at this
      rw[HY.out,←this]
      rfl)
    go_wp2_with fail;go_ret;rw[HE.out];exact⟨rfl,HI.out,hfr⟩
structure CP (P:Nat→Prop) (N:Nat) (w:World) (g:Nat) (t:Option Cr.Node) (size:Int):Prop where
  lt:P g
  ex:∃q,aO w g 201 #[.pointer q,.int .i64 size]∧bH P N w q t
theorem Uh (P Pl:Nat→Prop) (N:Nat) (hN0:N≤1000000) (w:World) (g:Nat) (t:Option Cr.Node) (size:Int) (method:Str) (L:List Str) (c:Nat) (A:Option Addr) (Ms:List Str) (hMs:Ms.length≤1000) (ht:CP P N w g t size) (hP:∀k,P k→k<w.heap.size) (hPl:∀k,Pl k→k<w.heap.size) (hm:method.length≤1000000) (hL:Rd Pl w A (aY L)) (hLc:L.length≤c) (hcm:c≤9223372036854775807) (hL0:L.length≤1000) (ML:∀x∈L,x.length≤1000000) (hG:∀es∈Cr.gy L t,∀r∈es,gY r∧wo r L∧r.method∈Ms):Calls prog 104 #[.pointer (some ⟨g,0,none⟩),.string ⟨method.toArray⟩,.slice A L.length c] w fun e w'=>∃vp va,e=.returned (.tuple #[.agg #[.string ⟨(Cr.dY t method L).1.handler.toArray⟩,vp,va],.bool (Cr.dY t method L).2])∧w'.ownsRow w.heap.size 212 2 vp (Cr.dY t method L).1.params.length (qI (Cr.dY t method L).1.params)∧w'.ownsRow w.heap.size 9 1 va (Cr.dY t method L).1.allow.length (aY (Cr.dY t method L).1.allow)∧Fr No w w':=by
 have hres:Tryz.f104.results=#[.cell 6 114,.tmp 7]:=rfl;obtain⟨hg,q,hb,hn⟩:=ht;have hgb:=hP g hg;have sX:Fr No w ((((w.alloc (.cells #[.string ⟨method.toArray⟩] 9)).alloc (.cells #[.slice A L.length c] 68)).alloc (.cells #[.string ⟨#[]⟩,.slice none 0 0,.slice none 0 0] 114)).alloc (.cells #[.string ⟨#[]⟩,.slice none 0 0,.slice none 0 0] 114)):=((((Fr.refl _ _).alloc _).alloc _).alloc _).alloc _;have k1:=(((aO.new w 9 #[.string ⟨method.toArray⟩]).alloc (.cells #[.slice A L.length c] 68)).alloc (.cells #[.string ⟨#[]⟩,.slice none 0 0,.slice none 0 0] 114)).alloc (.cells #[.string ⟨#[]⟩,.slice none 0 0,.slice none 0 0] 114);have k2:=((aO.new (w.alloc (.cells #[.string ⟨method.toArray⟩] 9)) 68 #[.slice A L.length c]).alloc (.cells #[.string ⟨#[]⟩,.slice none 0 0,.slice none 0 0] 114)).alloc (.cells #[.string ⟨#[]⟩,.slice none 0 0,.slice none 0 0] 114);have k3:=(aO.new ((w.alloc (.cells #[.string ⟨method.toArray⟩] 9)).alloc (.cells #[.slice A L.length c] 68)) 114 #[.string ⟨#[]⟩,.slice none 0 0,.slice none 0 0]).alloc (.cells #[.string ⟨#[]⟩,.slice none 0 0,.slice none 0 0] 114);have k4:=aO.new (((w.alloc (.cells #[.string ⟨method.toArray⟩] 9)).alloc (.cells #[.slice A L.length c] 68)).alloc (.cells #[.string ⟨#[]⟩,.slice none 0 0,.slice none 0 0] 114)) 114 #[.string ⟨#[]⟩,.slice none 0 0,.slice none 0 0];simp only[World.size_alloc]at k2 k3 k4;obtain⟨X,hX⟩:∃z_,(((w.alloc (.cells #[.string ⟨method.toArray⟩] 9)).alloc (.cells #[.slice A L.length c] 68)).alloc (.cells #[.string ⟨#[]⟩,.slice none 0 0,.slice none 0 0] 114)).alloc (.cells #[.string ⟨#[]⟩,.slice none 0 0,.slice none 0 0] 114)=z_:=⟨_,rfl⟩;rw[hX]at sX k1 k2 k3 k4;have hw:=k1.lt;have c0:=sX.cell (v:=.pointer q) (hb.cell 0) id;have HI:Hid (Ny (w.heap.size+1+1+1) w.heap.size (w.heap.size+1) (w.heap.size+1+1+1) method A L.length c Ms ⟨[],[],[]⟩ X∧Rd Pl X A (aY L)):=ae ⟨⟨Nat.le_refl _,k1,k2,⟨_,_,k4,⟨rfl,.inl ⟨rfl,rfl⟩⟩,⟨rfl,.inl ⟨rfl,rfl⟩⟩,fun h=>by cases h⟩,⟨by simp,by simp⟩⟩,hL.fr sX ai⟩;have hnX:=hn.no sX;obtain⟨base,hbase⟩:=ak (w.heap.size);rw[hbase]at k1 k2 k3 k4 hw HI hgb hP hPl;obtain⟨R,hR⟩:=ak (Cr.dY t method L);have HR:=ae (show Cr.dY t method L=R from hR);rw[hR,hbase];clear hR;have HB:=ae hbase;have HX:=ae hX;have d3:=k3.cell 0;have d3b:=k3.cell 1;have d3c:=k3.cell 2;have z3:=k3.frozen;simp only[bC]at d3 d3b d3c
 cases hn with
 |nil=>have HE:=ae (show R=(⟨[],[],[]⟩,false)by rw[←HR.out];simp[Cr.dY,Cr.gy,Cr.nG,Cr.sortStr]);have e0:=k4.cell 0;have e1:=k4.cell 1;have e2:=k4.cell 2;simp only[bC]at e0 e1 e2;have HK:=ae (And.intro k3 sX);clear k1 k2 k3 k4 hb hL hnX hG sX;go_enter func104,ntmps104;go_wp2_with fail;obtain⟨k3,sX⟩:=HK.out;have hY:=((k3.aA 0 (.string ⟨#[]⟩)).aA 1 (.slice none 0 0)).aA 2 (.slice none 0 0);have r0:=hY.cell 0;have r1:=hY.cell 1;have r2:=hY.cell 2;simp only[eX,bC]at r0 r1 r2;refine bodyPost_ret (v:=.tuple #[.agg #[.string ⟨#[]⟩,.slice none 0 0,.slice none 0 0],.bool false]) (by simp[results,hres,go_sem,r0,r1,r2]) rfl ?_;rw[HE.out];exact⟨_,_,rfl,⟨rfl,.inl ⟨rfl,rfl⟩⟩,⟨rfl,.inl ⟨rfl,rfl⟩⟩,sX.trans (EJ X _ _ _ _) (fun i hi h=>by have:=HB.out;omega)⟩
 |mk g2 AE D cc d pn pp pr es ps nx p r ends h1 h2 h3 h4 h5 h6 h7 h8 h9 h10 h11 h12 h13 h14 h15=>
  have HN:=ae hnX;obtain⟨T,hT⟩:=ak (some (Cr.Node.mk es nx p r ends));rw[hT]at HN hG HR;have amA:=k4.lt
  have HF:=ae (fun W (hf:Fr No X W)=>Xa (base+1+1+1) base (base+1) (base+1+1+1) (fun m w=>Ny (base+1+1+1) base (base+1) (base+1+1+1) method A L.length c Ms m w∧Rd Pl w A (aY L))
    (fun es=>∀r∈es,gY r∧wo r L∧r.method∈Ms) (wB method L)
    ⟨fun m w w' h hf=>⟨h.1.fr hf,h.2.fr hf ai⟩,fun P m w B d es hP hI hw hr hes hG=>by
      refine(NC (base+1+1+1) base (base+1) (base+1+1+1) method L c A Ms hMs Pl (fun k h=>by have:=hPl k h;omega) m w B d es P hP hI.1 hw hr hes hI.2 hLc hL0 ML hG).mono ?_
      rintro e w' ⟨rfl,h2,h3⟩
      exact⟨rfl,⟨h2,hI.2.fr h3 (fun k hk h=>by have h:=h;have:=hPl k hk;omega)⟩,h3⟩⟩
    N hN0 L Pl P W A c _ T ⟨[],[],[]⟩ (fun k h=>by have:=hPl k h;omega) (fun k h=>by have:=hP k h;omega) (by have:=hf.size;omega) (HI.out.2.fr hf ai) hLc hcm hL0 ML (HN.out.no hf) ⟨HI.out.1.fr hf,HI.out.2.fr hf ai⟩ hG)
  have e2:=k2.cell 0;simp only[List.getElem?_toArray,List.getElem?_cons_zero]at e2;have HK:=ae (And.intro k2 (And.intro k3 sX));have hk3:=k3.lt;have hk2:=k2.lt;have hk4:=k4.lt;(have hng:¬(fun k=>base+1+1+1≤k) g:=fun h=>by have h:base+1+1+1≤g:=h;omega);(have hn2:¬(fun k=>base+1+1+1≤k) (base+1):=fun h=>by have h:base+1+1+1≤base+1:=h;omega);have hq:=HN;obtain⟨RY,hRY⟩:=ak (mX (wB method L) (Cr.gy L T) ⟨[],[],[]⟩);have HY:=ae hRY;rw[hRY]at HF;unfold zQ at HF;clear k1 k2 k3 k4 hb hL hnX hG sX h1 h2 h3 h4 h5 h6 h7 h8 h9 h10 h11 h12 h13 h14 h15 hRY hT HN;go_enter func104,ntmps104;go_wp2_with fail;refine aZ (Fr (fun k=>base+1+1+1≤k)) [0,1,2,3,4,5,106,7,8] ?_;(iterate 6 (refine aV (fun w' hR=>And.intro (hR.cell c0 hng) (hR.cell e2 hn2)) ?_));refine aj fun K hK=>?_;refine(HF.out _ ((Fr.refl _ _).drew)).mono ?_;rintro e w1 ⟨rfl,hI1,hf1⟩;refine hK _ _ hf1 ?_;refine aao ?_;(iterate 2 refine aS ?_);refine aQ ?_;have f1:Fr (fun k=>base+1+1+1≤k) X w1:=((Fr.refl _ X).drew).trans hf1 ai;obtain⟨vp,va,hb4,lF,jK,_⟩:=hI1.1.k3;obtain⟨Ap,cp,rfl,_,_⟩:=aK lF;obtain⟨Aa,ca,rfl,_,_⟩:=aK jK;have c4:=hb4.cell 2;simp only[bC]at c4;have hal:=qg _ Ms hI1.1.nd.1 hI1.1.nd.2;have HS:=ae (Nw w1 _ _ RY.1.allow jK (by omega));have hd4:=fG jK hb4 (by decide);(have hn4:¬(Value.slice Aa RY.1.allow.length ca).ownBlock=some (base+1+1+1):=fun h=>hd4 _ h rfl);have H1:=ae (And.intro hb4 (And.intro lF jK));have Hi1:=ae hI1;clear lF jK hb4 hI1 hd4;go_wp2_with (go_at_call 126;refine aB HS.out ?_);refine au ?_;rintro e w2 rfl hown2 hf2;obtain⟨hb4,lF,jK⟩:=H1.out;have Zt:=hb4.fr hf2 hn4;obtain⟨k2,k3,sX⟩:=HK.out;have Y0:=(k3.fr f1 (by omega)).fr hf2 (fun h=>by have:=(jK.lt _ h).1;omega);have l0:=Zt.cell 0;have l1:=Zt.cell 1;have l2:=Zt.cell 2;have m0:=Y0.cell 0;have m1:=Y0.cell 1;have m2:=Y0.cell 2;simp only[bC]at l0 l1 l2 m0 m1 m2;have z2:=Y0.frozen;have hY:=((Y0.aA 0 (.string ⟨RY.1.handler.toArray⟩)).aA 1 (.slice Ap RY.1.params.length cp)).aA 2 (.slice Aa RY.1.allow.length ca);have H2:=ae (And.intro hY (And.intro hf2 (And.intro hown2 (And.intro (And.intro lF jK) (And.intro Y0 sX)))))
  have hE2:Hid (R=(⟨RY.1.handler,RY.1.params,Cr.sortStr RY.1.allow⟩,!RY.2)):=ae (by
    have h1:=Ji method L (Cr.gy L T) ⟨[],[],[]⟩
    rw[HY.out]at h1
    rw[←HR.out]
    unfold Cr.dY
    simp only at h1
    cases hpk:Cr.nG method [] (Cr.gy L T)with
    |inl r=>rw[hpk]at h1;simp only at h1⊢;rw[h1];rfl
    |inr al=>rw[hpk]at h1;simp only at h1⊢;rw[h1];rfl)
  clear hb4 lF jK Zt k2 k3 sX Y0 hY hf2 hown2;go_wp2_with fail;obtain⟨hY,hf2,hown2,⟨lF,jK⟩,Y0,sX⟩:=H2.out;have r0:=hY.cell 0;have r1:=hY.cell 1;have r2:=hY.cell 2;simp only[eX,bC]at r0 r1 r2;refine bodyPost_ret (v:=.tuple #[.agg #[.string ⟨RY.1.handler.toArray⟩,.slice Ap RY.1.params.length cp,.slice Aa RY.1.allow.length ca],.bool (!RY.2)]) (by simp[results,hres,go_sem,r0,r1,r2]) rfl ?_;rw[hE2.out];have hf3:=EJ w2 (base+1+1) (.string ⟨RY.1.handler.toArray⟩) (.slice Ap RY.1.params.length cp) (.slice Aa RY.1.allow.length ca);have hnp:=FY lF jK (by decide);refine⟨_,_,rfl,(((lF.weaken (base':=base) (by omega)).fr hf2 (fun i hi h=>hnp i hi h)).fr hf3 (fun i hi h=>?_)),?_,?_⟩;(·have:=(lF.lt i hi).1;have h:=h;omega);(·simp only[jB];refine(hown2.weaken (base':=base) (by omega)).fr hf3 (fun i hi h=>?_);have:=(hown2.lt i hi).1;have h:=h;omega);(·have e:=HB.out;refine((sX.trans f1 (fun i hi h=>?_)).trans hf2 (fun i hi h=>?_)).trans hf3 (fun i hi h=>?_);(·have h:=h;omega);(·have:=(jK.lt i h).1;omega);(·have h:=h;omega))
end Go.Proofs.YthcbjeeajoliiaaGreatDoor
