/- Lemmas for ScriptRuns. -/
import Derived.BigQuiet
import Derived.Deep.QuietTactic
import Derived.Test.YthcbjeeajoliiaaGreatDoorM13
set_option maxRecDepth 100000
set_option maxHeartbeats 4000000
set_option linter.unusedVariables false
set_option linter.unusedSimpArgs false
namespace Go.Proofs.YthcbjeeajoliiaaGreatDoor
open Go.RowKit
open Cr (Str fH BX rG)
open Tryz
def zQ (b1 b2 b3:Nat):Value:=.func (.func 123) #[] #[.pointer (some ⟨b1,0,none⟩),.pointer (some ⟨b2,0,none⟩),.pointer (some ⟨b3,0,none⟩)]
def mX (Y:rG→List fH→rG×Bool):List (List fH)→rG→rG×Bool
  |[],m=>(m,true)
  |e::es,m=>let r:=Y m e;if r.2 then mX Y es r.1 else(r.1,false)
theorem lC (Y:rG→List fH→rG×Bool):∀(a b:List (List fH)) (m:rG),mX Y (a++b) m=if(mX Y a m).2 then mX Y b (mX Y a m).1 else((mX Y a m).1,false)
  |[],b,m=>by simp[mX]
  |e::a,b,m=>by
    simp only[List.cons_append,mX]
    by_cases h:(Y m e).2=true
    · simp only[h,if_true]
      exact lC Y a b _
    · simp[h]
theorem Bd (Y:rG→List fH→rG×Bool) (e:List fH) (m:rG):mX Y [e] m=Y m e:=by simp only[mX];(cases h:(Y m e).2<;>simp[←h])
def abz (base:Nat) (b1 b2 b3:Nat) (I:rG→World→Prop) (G:List fH→Prop) (Y:rG→List fH→rG×Bool):Prop:=
  (∀m w w',I m w→Fr No w w'→I m w')∧
  ∀(P:Nat→Prop) (m:rG) (w:World) (A:Option Addr) (c:Nat) (l:List fH),(∀k,P k→k<base)→I m w→base≤w.heap.size→Rd P w A (iT l)→l.length≤1000000→G l→
    Calls prog 123 #[.slice A l.length c,.pointer (some ⟨b1,0,none⟩),.pointer (some ⟨b2,0,none⟩),.pointer (some ⟨b3,0,none⟩)] w fun e w'=>e=.returned (.bool (Y m l).2)∧I (Y m l).1 w'∧Fr (fun k=>base≤k) w w'
theorem xU (n:Cr.Node):Cr.gy [] (some n)=if n.ends=[]then []else [n.ends]:=by simp[Cr.gy]
theorem wW (x:Str) (l:List Str) (n:Cr.Node):Cr.gy (x::l) (some n)=(if x=[]then []else Cr.gy l (Cr.dZ n x)++Cr.gy l n.param)++(match n.rest with|none=>[]|some r=>[r.ends]):=by(cases n);simp[Cr.gy,Cr.Node.param,Cr.Node.rest];rfl
theorem W9 (ga off n c:Nat) (h:n+1≤c) (hcm:c≤9223372036854775807) (w:World):(Instr.slice 68 (.slice (some ⟨ga,off,none⟩) (n+1) c) (some (.int .i64 1)) none none).run prog w=.ok (.slice (if c=1 then some ⟨ga,off,none⟩else some ⟨ga,off+1,none⟩) n (c-1)) w:=by(have h1:(1:Int)≤(n:Int)+1:=by omega);(have h2:(n:Int)+1≤(c:Int):=by omega);(have h3:(c:Int)≤9223372036854775807:=by omega);(by_cases hc:c=1);(·subst hc;(obtain rfl:n=0:=by omega);go_simp);(·rw[if_neg hc];(have h4:¬c-1=0:=by omega);go_simp)
set_option maxHeartbeats 8000000 in
theorem Xa (base b1 b2 b3:Nat) (I:rG→World→Prop) (G:List fH→Prop) (Y:rG→List fH→rG×Bool) (hY:abz base b1 b2 b3 I G Y) (N:Nat) (hN0:N≤1000000):∀(l:List Str) (Pl Pn:Nat→Prop) (w:World) (A:Option Addr) (c:Nat) (q:Option Addr) (n:Option Cr.Node) (m:rG),(∀k,Pl k→k<base)→(∀k,Pn k→k<base)→base≤w.heap.size→Rd Pl w A (aY l)→l.length≤c→c≤9223372036854775807→l.length≤1000→(∀x∈l,x.length≤1000000)→bH Pn N w q n→I m w→(∀e∈Cr.gy l n,G e)→Calls prog 122 #[.pointer q,.slice A l.length c,zQ b1 b2 b3] w fun e w'=>e=.returned (.bool (mX Y (Cr.gy l n) m).2)∧I (mX Y (Cr.gy l n) m).1 w'∧Fr (fun k=>base≤k) w w':=by
 intro l
 induction l with
 |nil=>intro Pl Pn w A c q n m hPl Px hbw hr hc hcm hl hs hn hI hG;(cases hn with|nil=>(go_enter func122,ntmps122;go_wp2_with fail;go_ret;exact⟨by simp[Cr.gy,mX],by simpa[Cr.gy,mX]using hI,Fr.refl _ _⟩)|mk g AE D c0 d pn pp pr es ps nx p r ends hg hb hc1 hd hA hps hNe hM ht hE hD hes hnn hp hrr=>(rw[xU]at hG⊢;have c4:=hb.c4;(by_cases he:ends=[]);(·subst he;have HE:=ae (show(if(Cr.Node.mk es nx p r []).ends=[]then []else [(Cr.Node.mk es nx p r []).ends])=([]:List (List fH))from if_pos rfl);rw[HE.out];clear hb hE hD hes hnn hp hrr hps ht hA hG;go_enter func122,ntmps122;go_wp2_with fail;go_ret;exact⟨rfl,hI,Fr.refl _ _⟩);(·have HE:=ae (show(if(Cr.Node.mk es nx p r ends).ends=[]then []else [(Cr.Node.mk es nx p r ends).ends])=[ends]from if_neg he);rw[HE.out]at hG⊢;have hep:=List.length_pos_iff.2 he;(have he0:((ends.length:Int)==0)=false:=by simp only[beq_eq_false_iff_ne,ne_eq];omega);have HC:=ae (hY.2 Pn m w D d ends Px hI hbw hD (by omega) (hG ends (by simp)));(have hR:mX Y [ends] m=((Y m ends).1,(Y m ends).2):=by simp only[mX];(cases h:(Y m ends).2<;>simp[h]));rw[hR];unfold zQ;clear hb hE hD hes hnn hp hrr hps ht hA hG hR;go_enter func122,ntmps122;go_wp2_with (go_at_call 123;refine aB HC.out ?_);refine au ?_;rintro e w1 rfl hI1 hf1;go_wp2_with fail;go_ret;exact⟨rfl,hI1,hf1⟩)))
 |cons x l ih=>
  intro Pl Pn w A c q n m hPl Px hbw hr hc hcm hl hs hn hI hG
  cases hn with
  |nil=>go_enter func122,ntmps122;go_wp2_with fail;go_ret;exact⟨by simp[Cr.gy,mX],by simpa[Cr.gy,mX]using hI,Fr.refl _ _⟩
  |mk g AE D c0 d pn pp pr es ps nx p r ends hg hb hc1 hd hA hps hNe hM ht hE hD hes hnn hp hrr=>
   rw[wW]at hG⊢;simp only[Cr.Node.param,Cr.Node.rest]at hG⊢;have hN:=bH.mk (P:=Pn) g AE D c0 d pn pp pr es ps nx p r ends hg hb hc1 hd hA hps hNe hM ht hE hD hes hnn hp hrr;obtain⟨gl,off,rfl,_,hcell⟩:=hr.form (by simp[aY]);have hq:=hcell 0 _ (dP (l:=x::l) (k:=0) rfl);rw[Nat.add_zero]at hq;have TF:=cell_lt hq;have c2:=hb.c2;have c3:=hb.c3;(have amm:gl<base:=by obtain⟨a,ha,hpa,_⟩:=hr (by simp[aY]);injection ha with ha;subst ha;exact hPl _ hpa);have hgb:=Px _ hg;(have hlen:(1:Int)≤(l.length:Int)+1:=by omega);(have amn:((l.length:Int)+1==0)=false:=by simp only[beq_eq_false_iff_ne,ne_eq];omega);simp only[List.length_cons]at hl hc
   have aaT:Hid (∀(m2:rG) (w2:World),I m2 w2→Fr (fun k=>base≤k) w w2→∀(gr:Nat),pr=some ⟨gr,0,none⟩→∃D2 d2 n2,r=some n2∧w2.cell? ⟨gr,4,none⟩=some (.slice D2 n2.ends.length d2)∧
       Calls prog 123 #[.slice D2 n2.ends.length d2,.pointer (some ⟨b1,0,none⟩),.pointer (some ⟨b2,0,none⟩),.pointer (some ⟨b3,0,none⟩)] w2 fun e w'=>e=.returned (.bool (Y m2 n2.ends).2)∧I (Y m2 n2.ends).1 w'∧Fr (fun k=>base≤k) w2 w'):=by
     refine ae fun m2 w2 hI2 hf2 gr hgr=>?_
     subst hgr
     cases hrr with
     |mk _ AE2 D2 c02 d2 pn2 pp2 pr2 es2 ps2 nx2 p2 r2 Xb hg2 hb2 hc12 hd2 hA2 amq amr hM2 ht2 hE2 hD2=>
       refine⟨D2,d2,.mk es2 nx2 p2 r2 Xb,rfl,?_,?_⟩
       · exact hf2.cell (hb2.cell 4) (fun h=>absurd (Px _ hg2) (Nat.not_lt.2 h))
       · exact hY.2 Pn m2 w2 D2 d2 Xb Px hI2 (by have:=hf2.size;omega) (hD2.fr hf2 (fun k hk h=>by have:=Px k hk;omega)) (by omega) (hG Xb (by simp[Cr.Node.ends]))
   (have Ew:¬(fun k=>base≤k) gl:=by show¬base≤gl;omega);(have hg0:¬(fun k=>base≤k) g:=by show¬base≤g;omega);have Hih:=ae ih;have HN:=ae hN;have Hrr:=ae hrr;have HP:=ae hp;have HG:=ae hG;have Hr:=ae hr;have Hs:=ae hs;clear ih hN hrr hp hr hs hb hE hD hes hnn hps ht hA hcell;unfold zQ;(by_cases hx:x=[]);(·subst hx;rw[show(if([]:Str)=[]then []else Cr.gy l (Cr.dZ (.mk es nx p r ends) [])++Cr.gy l p)=([]:List (List fH))from if_pos rfl,List.nil_append];clear hG;(cases pr with|none=>(have hr0:Hid (r=none):=ae (by have h:=Hrr.out;cases h;rfl);go_enter func122,ntmps122;go_wp2_with fail;go_quiet (fail);obtain⟨W1,hW1⟩:=ak (w.drewN nq);(have f1:Fr (fun k=>base≤k) w W1:=by rw[←hW1];exact(Fr.refl _ _).drewN nq);(have hI1:I m W1:=by rw[←hW1];exact hY.1 m w _ hI ((Fr.refl _ _).drewN nq));have q1:=f1.cell hq Ew;have g3:=f1.cell c3 hg0;(have g3d:=fun k=>(show(W1.drewN k).cell? ⟨g,3,none⟩=_ from g3));rw[hW1];clear hW1;go_wp2_with fail;go_quiet (fail);obtain⟨W2,hW2⟩:=ak (W1.drewN nq);(have hf2:Fr (fun k=>base≤k) w W2:=by rw[←hW2];exact f1.drewN nq);(have hI2:I m W2:=by rw[←hW2];exact hY.1 m W1 _ hI1 ((Fr.refl _ _).drewN nq));rw[hW2];clear hW2;have k3:=Fr.cell hf2 c3 hg0;go_wp2_with fail;go_ret;exact⟨rfl,hI2,hf2⟩)|some ga=>((obtain⟨gr,rfl⟩:∃gr,ga=⟨gr,0,none⟩:=by have h:=Hrr.out;cases h;exact⟨_,rfl⟩);go_enter func122,ntmps122;go_wp2_with fail;go_quiet (fail);obtain⟨W1,hW1⟩:=ak (w.drewN nq);(have f1:Fr (fun k=>base≤k) w W1:=by rw[←hW1];exact(Fr.refl _ _).drewN nq);(have hI1:I m W1:=by rw[←hW1];exact hY.1 m w _ hI ((Fr.refl _ _).drewN nq));have q1:=f1.cell hq Ew;have g3:=f1.cell c3 hg0;(have g3d:=fun k=>(show(W1.drewN k).cell? ⟨g,3,none⟩=_ from g3));rw[hW1];clear hW1;go_wp2_with fail;go_quiet (fail);obtain⟨W2,hW2⟩:=ak (W1.drewN nq);(have hf2:Fr (fun k=>base≤k) w W2:=by rw[←hW2];exact f1.drewN nq);(have hI2:I m W2:=by rw[←hW2];exact hY.1 m W1 _ hI1 ((Fr.refl _ _).drewN nq));rw[hW2];clear hW2;obtain⟨D2,d2,n2,rfl,k4,HC⟩:=aaT.out m _ hI2 hf2 gr rfl;have k3:=Fr.cell hf2 c3 hg0;have HC:=ae HC;go_wp2_with (go_at_call 123;refine aB HC.out ?_);refine au ?_;rintro e w9 rfl hI9 fE;go_wp2_with fail;go_ret;exact⟨by rw[Bd];rfl,by rw[Bd];exact hI9,Fr.trans hf2 fE ai⟩)));(·rw[if_neg hx]at hG⊢;have hxl:=Hs.out x (by simp);(obtain⟨x0,xs,rfl⟩:∃x0 xs,x=x0::xs:=by cases x with|nil=>(exact absurd rfl hx)|cons a b=>(exact⟨a,b,rfl⟩));have IG:=ae (fun W' (hW':Fr No w W')=>WZ HN.out hN0 _ rfl W' hW' (x0::xs) hxl);obtain⟨SN,hSN⟩:∃SN,Cr.dZ (.mk es nx p r ends) (x0::xs)=SN:=⟨_,rfl⟩;rw[hSN]at IG hG⊢;clear hSN;obtain⟨A',hA'⟩:∃A',(if c=1 then some (⟨gl,off,none⟩:Addr)else some ⟨gl,off+1,none⟩)=A':=⟨_,rfl⟩;have Nr:=ae (fun w'=>W9 gl off l.length c hc hcm w');(have hrt:Rd Pl w A' (aY l):=by rw[←hA'];(rcases Nat.eq_zero_or_pos l.length with h0|h0);(·rw[List.eq_nil_of_length_eq_zero h0];exact Rd.nil _ _ _);(·have hrd:=Hr.out.Rh (n:=((x0::xs)::l).length) (c:=c) (k:=1) (by simpa using h0) (by simpa using hc) 1;exact hrd));rw[hA']at Nr;have LY:=ae (fun w1 q1 (hf:Fr No w w1) (hn1:bH Pn N w1 q1 SN)=>Hih.out Pl Pn w1 A' (c-1) q1 SN m hPl Px (by have:=hf.size;omega) (hrt.fr hf ai) (by omega) (by omega) (by omega) (fun y hy=>Hs.out y (by simp[hy])) hn1 (hY.1 m w w1 hI hf) (fun e he=>hG e (by simp[he])));obtain⟨A1,hA1⟩:=ak (Cr.gy l SN);rw[hA1]at LY⊢;have HA:=ae (And.intro hA' hA1);have HG2:=ae (show∀e∈Cr.gy l p,G e from fun e he=>hG e (by simp[he]));clear hA' hA1 hx hG;(cases hb1:(mX Y A1 m).2 with|false=>(have HE:=ae (show∀B R,mX Y (A1++B++R) m=((mX Y A1 m).1,false)from fun B R=>by rw[lC,lC,hb1];simp);rw[hb1]at LY;rw[HE.out];clear hb1;unfold zQ at LY;go_enter func122,ntmps122;go_wp2_with fail;refine aZ (Fr (fun k=>base≤k)) [0,1,2,3,4,5,6,7,8,10,11,12,109,113,14,15] ?_;(iterate 12 (refine aV (fun w' hR=>And.intro (hR.cell hq Ew) (Nr.out w')) ?_));refine aj fun K hK=>?_;refine(IG.out _ ((Fr.refl _ _).drew)).mono ?_;rintro e w1 ⟨q1,rfl,hn1,hf1⟩;refine hK _ _ (hf1.mono (fun _ _ h=>absurd h id)) ?_;have zS:=((Fr.refl _ _).drew).trans hf1 ai;refine aao ?_;refine aj fun K hK=>?_;refine(LY.out w1 q1 zS hn1).mono ?_;rintro e w3 ⟨rfl,hI3,hf3⟩;refine hK _ _ hf3 ?_;have wu:Fr (fun k=>base≤k) w w3:=(zS.mono (fun _ _ h=>absurd h id)).trans hf3 ai;refine aao ?_;(iterate 2 refine aS ?_);refine aQ ?_;go_wp2_with fail;go_ret;exact⟨rfl,hI3,wu⟩)|true=>(obtain⟨m1,hm1⟩:=ak ((mX Y A1 m).1);rw[hb1]at LY;rw[hm1]at LY;have HF2:=ae (fun w2 (hI2:I m1 w2) (hf:Fr (fun k=>base≤k) w w2)=>Hih.out Pl Pn w2 A' (c-1) pp p m1 hPl Px (by have:=hf.size;omega) (hrt.fr hf (fun k hk h=>absurd (hPl k hk) (Nat.not_lt.2 h))) (by omega) (by omega) (by omega) (fun y hy=>Hs.out y (by simp[hy])) (HP.out.fr hf (fun k hk h=>absurd (Px k hk) (Nat.not_lt.2 h))) hI2 (fun e he=>HG2.out e he));obtain⟨A2,hA2⟩:=ak (Cr.gy l p);rw[hA2]at HF2⊢;clear hA2;(cases hb2:(mX Y A2 m1).2 with|false=>(have HE:=ae (show∀R,mX Y (A1++A2++R) m=((mX Y A2 m1).1,false)from fun R=>by rw[lC,lC,hb1,hm1];simp[hb2]);rw[hb2]at HF2;rw[HE.out];clear hb1 hb2 hm1;unfold zQ at LY HF2;go_enter func122,ntmps122;go_wp2_with fail;refine aZ (Fr (fun k=>base≤k)) [0,1,2,3,4,5,6,7,8,10,11,12,109,113,14,15] ?_;(iterate 12 (refine aV (fun w' hR=>And.intro (hR.cell hq Ew) (Nr.out w')) ?_));refine aj fun K hK=>?_;refine(IG.out _ ((Fr.refl _ _).drew)).mono ?_;rintro e w1 ⟨q1,rfl,hn1,hf1⟩;refine hK _ _ (hf1.mono (fun _ _ h=>absurd h id)) ?_;have zS:=((Fr.refl _ _).drew).trans hf1 ai;refine aao ?_;refine aj fun K hK=>?_;refine(LY.out w1 q1 zS hn1).mono ?_;rintro e w3 ⟨rfl,hI3,hf3⟩;refine hK _ _ hf3 ?_;have wu:Fr (fun k=>base≤k) w w3:=(zS.mono (fun _ _ h=>absurd h id)).trans hf3 ai;refine aao ?_;(iterate 2 refine aS ?_);refine aQ ?_;have hq3:=wu.cell hq Ew;have Xc:=wu.cell c2 hg0;go_wp2_with fail;refine aZ (Fr (fun k=>base≤k)) [0,1,2,3,4,5,6,7,8,9,10,11,112,13,14] ?_;(iterate 12 (refine aV (fun w' hR=>And.intro (hR.cell hq3 Ew) (And.intro (hR.cell Xc hg0) (Nr.out w'))) ?_));refine aj fun K hK=>?_;refine(HF2.out w3.drew (hY.1 _ w3 _ hI3 ((Fr.refl _ _).drew)) wu.drew).mono ?_;rintro e w5 ⟨rfl,hI5,hf5⟩;refine hK _ _ hf5 ?_;have Ns:=(wu.drew).trans hf5 ai;refine aao ?_;(iterate 2 refine aS ?_);refine aQ ?_;go_wp2_with fail;go_ret;exact⟨rfl,hI5,Ns⟩)|true=>(have HE:=ae (show∀R,mX Y (A1++A2++R) m=mX Y R (mX Y A2 m1).1 from fun R=>by rw[lC,lC,hb1,hm1];simp[hb2]);rw[hb2]at HF2;rw[HE.out];clear hb1 hb2 hm1;obtain⟨m2,hm2⟩:=ak ((mX Y A2 m1).1);rw[hm2]at HF2⊢;clear hm2 HE;unfold zQ at LY HF2;(cases pr with|none=>((have hr0:r=none:=by have h:=Hrr.out;cases h;rfl);subst hr0;go_enter func122,ntmps122;go_wp2_with fail;refine aZ (Fr (fun k=>base≤k)) [0,1,2,3,4,5,6,7,8,10,11,12,109,113,14,15] ?_;(iterate 12 (refine aV (fun w' hR=>And.intro (hR.cell hq Ew) (Nr.out w')) ?_));refine aj fun K hK=>?_;refine(IG.out _ ((Fr.refl _ _).drew)).mono ?_;rintro e w1 ⟨q1,rfl,hn1,hf1⟩;refine hK _ _ (hf1.mono (fun _ _ h=>absurd h id)) ?_;have zS:=((Fr.refl _ _).drew).trans hf1 ai;refine aao ?_;refine aj fun K hK=>?_;refine(LY.out w1 q1 zS hn1).mono ?_;rintro e w3 ⟨rfl,hI3,hf3⟩;refine hK _ _ hf3 ?_;have wu:Fr (fun k=>base≤k) w w3:=(zS.mono (fun _ _ h=>absurd h id)).trans hf3 ai;refine aao ?_;(iterate 2 refine aS ?_);refine aQ ?_;have hq3:=wu.cell hq Ew;have Xc:=wu.cell c2 hg0;go_wp2_with fail;refine aZ (Fr (fun k=>base≤k)) [0,1,2,3,4,5,6,7,8,9,10,11,112,13,14] ?_;(iterate 12 (refine aV (fun w' hR=>And.intro (hR.cell hq3 Ew) (And.intro (hR.cell Xc hg0) (Nr.out w'))) ?_));refine aj fun K hK=>?_;refine(HF2.out w3.drew (hY.1 _ w3 _ hI3 ((Fr.refl _ _).drew)) wu.drew).mono ?_;rintro e w5 ⟨rfl,hI5,hf5⟩;refine hK _ _ hf5 ?_;have Ns:=(wu.drew).trans hf5 ai;refine aao ?_;(iterate 2 refine aS ?_);refine aQ ?_;have k3:=Fr.cell Ns c3 hg0;go_wp2_with fail;go_ret;exact⟨rfl,hI5,Ns⟩)|some ga=>((obtain⟨gr,rfl⟩:∃gr,ga=⟨gr,0,none⟩:=by have h:=Hrr.out;cases h;exact⟨_,rfl⟩);go_enter func122,ntmps122;go_wp2_with fail;refine aZ (Fr (fun k=>base≤k)) [0,1,2,3,4,5,6,7,8,10,11,12,109,113,14,15] ?_;(iterate 12 (refine aV (fun w' hR=>And.intro (hR.cell hq Ew) (Nr.out w')) ?_));refine aj fun K hK=>?_;refine(IG.out _ ((Fr.refl _ _).drew)).mono ?_;rintro e w1 ⟨q1,rfl,hn1,hf1⟩;refine hK _ _ (hf1.mono (fun _ _ h=>absurd h id)) ?_;have zS:=((Fr.refl _ _).drew).trans hf1 ai;refine aao ?_;refine aj fun K hK=>?_;refine(LY.out w1 q1 zS hn1).mono ?_;rintro e w3 ⟨rfl,hI3,hf3⟩;refine hK _ _ hf3 ?_;have wu:Fr (fun k=>base≤k) w w3:=(zS.mono (fun _ _ h=>absurd h id)).trans hf3 ai;refine aao ?_;(iterate 2 refine aS ?_);refine aQ ?_;have hq3:=wu.cell hq Ew;have Xc:=wu.cell c2 hg0;go_wp2_with fail;refine aZ (Fr (fun k=>base≤k)) [0,1,2,3,4,5,6,7,8,9,10,11,112,13,14] ?_;(iterate 12 (refine aV (fun w' hR=>And.intro (hR.cell hq3 Ew) (And.intro (hR.cell Xc hg0) (Nr.out w'))) ?_));refine aj fun K hK=>?_;refine(HF2.out w3.drew (hY.1 _ w3 _ hI3 ((Fr.refl _ _).drew)) wu.drew).mono ?_;rintro e w5 ⟨rfl,hI5,hf5⟩;refine hK _ _ hf5 ?_;have Ns:=(wu.drew).trans hf5 ai;refine aao ?_;(iterate 2 refine aS ?_);refine aQ ?_;obtain⟨D2,d2,n2,rfl,k4,HC⟩:=aaT.out m2 _ hI5 Ns gr rfl;have k3:=Fr.cell Ns c3 hg0;have HC:=ae HC;go_wp2_with (go_at_call 123;refine aB HC.out ?_);refine au ?_;rintro e w9 rfl hI9 fE;go_wp2_with fail;go_ret;exact⟨by rw[Bd];rfl,by rw[Bd];exact hI9,Fr.trans Ns fE ai⟩)))))))
def FU (r:fH):Nat:=(Cr.pattern r.pattern).1.length
inductive wX (P:fH→Prop):Nat→Option Cr.Node→Prop
  |nil (d:Nat):wX P d none
  |mk (d:Nat) (es:List (Str×Cr.Node)) (nx p r:Option Cr.Node) (ends:List fH):(∀(k:Nat) t m,es[k]? =some (t,m)→wX P d (some m))→wX P (d+1) nx→wX P (d+1) p→wX P (d+1) r→
      (∀x∈ends,P x∧FU x≤d)→wX P d (some (.mk es nx p r ends))
variable {P:fH→Prop}
theorem wX.empty (d:Nat):wX P d (some Cr.Node.empty):=.mk d [] none none none [] (by simp) (.nil _) (.nil _) (.nil _) (by simp)
theorem wX.getD {d:Nat} {o:Option Cr.Node} (h:wX P d o):wX P d (some (o.getD .empty)):=by cases h with|nil=>(exact wX.empty d)|mk _ es nx p r ends h1 h2 h3 h4 h5=>(exact .mk d es nx p r ends h1 h2 h3 h4 h5)
theorem wX.step {d:Nat} {o:Option Cr.Node} (h:wX P d o):∀n,o=some n→∀s,wX P (d+1) (Cr.dZ n s):=by induction h with|nil=>(intro n h;cases h)|mk d es nx p r ends h1 h2 h3 h4 h5 i1 i2 i3 i4=>(intro n hn s;injection hn with hn;subst hn;simp only[Cr.dZ];split;(·exact h2);(·clear h1;(induction es with|nil=>(simp only[Cr.dZ.jv];exact .nil _)|cons e es ih=>(obtain⟨t,mt⟩:=e;simp only[Cr.dZ.jv];split;(·exact i1 0 t mt rfl mt rfl _);(·exact ih fun k t m hk=>i1 (k+1) t m (by simpa using hk))))))
theorem wX.gy:∀(l:List Str) (d:Nat) (o:Option Cr.Node),wX P d o→∀e∈Cr.gy l o,∀x∈e,P x∧FU x≤d+l.length
  |l,d,none,_,e,he,x,hx=>by simp[Cr.gy]at he
  |[],d,some n,h,e,he,x,hx=>by
    rw[xU]at he
    split at he
    · simp at he
    · simp only[List.mem_singleton]at he
      subst he
      cases h with
      |mk _ es nx p r ends h1 h2 h3 h4 h5=>exact h5 x hx
  |s::l,d,some n,h,e,he,x,hx=>by
    rw[wW]at he
    have hst:=h.step n rfl s
    cases h with
    |mk _ es nx p r ends h1 h2 h3 h4 h5=>
      rcases List.mem_append.1 he with he|he
      · split at he
        · simp at he
        · rcases List.mem_append.1 he with he|he
          · have:=wX.gy l (d+1) _ hst e he x hx
            exact⟨this.1,by simp only[List.length_cons];omega⟩
          · have:=wX.gy l (d+1) _ h3 e he x hx
            exact⟨this.1,by simp only[List.length_cons];omega⟩
      · simp only[Cr.Node.rest]at he
        cases r with
        |none=>simp at he
        |some r=>
          simp only[List.mem_singleton]at he
          subst he
          cases h4 with
          |mk _ es' nx' p' r' ends' h1' h2' h3' h4' h5'=>
            have:=h5' x hx
            exact⟨this.1,by simp only[List.length_cons];omega⟩
theorem wX.word {d:Nat} {f:Option Cr.Node→Cr.Node} (hf:∀o,wX P (d+1) o→wX P (d+1) (some (f o))):∀(k:Nat) (n:Cr.Node) (s:Str),wX P d (some n)→wX P d (some (Cr.nJ f k n s))
  |0,n,s,h=>by simpa[Cr.nJ]using h
  |k+1,n,s,h=>by
    cases h with
    |mk _ es nx p r ends h1 h2 h3 h4 h5=>
      unfold Cr.nJ
      split
      · exact .mk d es _ p r ends h1 (hf _ h2) h3 h4 h5
      · split
        · refine .mk d _ nx p r ends (fun i t m hi=>?_) h2 h3 h4 h5
          rw[List.getElem?_append]at hi
          split at hi
          · exact h1 i t m hi
          · obtain⟨_,hi⟩:∃j,[(s,Cr.Node.mk [] (some (f none)) none none [])][j]? =some (t,m):=⟨_,hi⟩
            have hmem:=List.mem_of_getElem? hi
            simp only[List.mem_singleton,Prod.mk.injEq]at hmem
            rw[hmem.2]
            exact .mk d [] _ none none [] (by simp) (hf _ (.nil _)) (.nil _) (.nil _) (by simp)
        · rename_i i hfi
          split
          · exact .mk d es nx p r ends h1 h2 h3 h4 h5
          · rename_i t mt hi
            have hto:=h1 i t mt hi
            simp only
            have key:∀t' m',wX P d (some m')→wX P d (some (Cr.Node.mk (es.set i (t',m')) nx p r ends)):=by
              intro t' m' hm'
              refine .mk d _ nx p r ends (fun j t2 m2 hj=>?_) h2 h3 h4 h5
              rw[List.getElem?_set]at hj
              split at hj
              · split at hj
                · injection hj with hj
                  injection hj with _ hj
                  rw[←hj]
                  exact hm'
                · cases hj
              · exact h1 j t2 m2 hj
            split
            · exact key _ _ (wX.word hf k mt _ hto)
            · exact key _ _ (wX.word hf k _ _ (.mk d _ none none none [] (fun j t2 m2 hj=>by
                have hmem:=List.mem_of_getElem? hj
                simp only[List.mem_singleton,Prod.mk.injEq]at hmem
                rw[hmem.2]
                exact hto) (.nil _) (.nil _) (.nil _) (by simp)))
def FW (l:List Str):Prop:=∀k x,l[k]? =some x→Cr.kindOf x=2→k+1=l.length
theorem wX.put {r:fH} (hr:P r):∀(l:List Str) (d:Nat) (o:Option Cr.Node),wX P d o→FW l→FU r≤d+l.length→wX P d (some (Cr.lq r l o))
  |[],d,o,h,_,hl=>by
    have hg:=h.getD
    unfold Cr.lq
    cases hgo:o.getD .empty with
    |mk es nx p rs e=>
      rw[hgo]at hg
      cases hg with
      |mk _ es nx p r ends h1 h2 h3 h4 h5=>
        refine .mk d es nx p rs _ h1 h2 h3 h4 fun x hx=>?_
        rcases List.mem_append.1 hx with hx|hx
        · exact h5 x hx
        · simp only[List.mem_singleton]at hx
          subst hx
          exact⟨hr,hl⟩
  |x::l,d,o,h,hR,hl=>by
    have hg:=h.getD
    have hR':FW l:=fun k y hy hk=>by
      have:=hR (k+1) y (by simpa using hy) hk
      simpa using this
    simp only[List.length_cons]at hl
    unfold Cr.lq
    split
    · exact wX.word (fun o ho=>wX.put hr l (d+1) o ho hR' (by omega)) _ _ _ hg
    · rename_i hk0
      cases hgo:o.getD .empty with
      |mk es nx p rs e=>
        rw[hgo]at hg
        cases hg with
        |mk _ es nx p r ends h1 h2 h3 h4 h5=>
          simp only
          split
          · exact .mk d es nx _ rs e h1 h2 (wX.put hr l (d+1) p h3 hR' (by omega)) h4 h5
          · rename_i hk1
            have hk2:Cr.kindOf x=2:=by
              rcases rO x with h|h|h
              · exact absurd h hk0
              · exact absurd h hk1
              · exact h
            have hlast:=hR 0 x rfl hk2
            simp only[List.length_cons]at hlast
            refine .mk d es nx p _ e h1 h2 h3 ?_ h5
            have hg4:=h4.getD
            cases aht:rs.getD .empty with
            |mk es' nx' p' rs' e'=>
              rw[aht]at hg4
              cases hg4 with
              |mk _ _ _ _ _ _ k1 k2 k3 k4 k5=>
                refine .mk (d+1) es' nx' p' rs' _ k1 k2 k3 k4 fun y hy=>?_
                rcases List.mem_append.1 hy with hy|hy
                · exact k5 y hy
                · simp only[List.mem_singleton]at hy
                  subst hy
                  exact⟨hr,by omega⟩
theorem xW (last:Nat):∀(l:List Str) (i:Nat) (names:List Str),Cr.dN last i names l=true→∀k x,l[k]? =some x→Cr.kindOf x=2→i+k=last
  |[],_,_,_,k,x,hx,_=>by simp at hx
  |y::l,i,names,h,k,x,hx,hk=>by
    unfold Cr.dN at h
    have next:∀names',Cr.dN last (i+1) names' l=true→∀k',k=k'+1→i+k=last:=by
      intro names' h' k' hk'
      subst hk'
      have:=xW last l (i+1) names' h' k' x (by simpa using hx) hk
      omega
    cases k with
    |zero=>
      simp only[List.getElem?_cons_zero,Option.some.injEq]at hx
      subst hx
      rw[if_neg (by rw[hk];decide)]at h
      split at h
      · cases h
      · rename_i hc
        simp only[hk,true_and,ne_eq,Decidable.not_not]at hc
        omega
    |succ k=>
      split at h
      · split at h
        · exact next _ h k rfl
        · cases h
      · split at h
        · cases h
        · split at h
          · exact next _ h k rfl
          · cases h
theorem KI (s:Str) (hok:(Cr.pattern s).2=true):FW (Cr.pattern s).1:=by unfold Cr.pattern at hok⊢;(cases s with|nil=>(simp at hok)|cons c r=>(simp only at hok⊢;split at hok;(·simp at hok);(·rename_i h47;rw[if_neg h47];split at hok;(·rename_i h0;rw[if_pos h0];intro k x hx;simp at hx);(·rename_i h0;rw[if_neg h0];split at hok;(·rename_i hg;rw[if_pos hg];intro k x hx hk;simp only at hx⊢;have:=xW _ _ 0 [] hg k x hx hk;have hlt:=(List.getElem?_eq_some_iff.1 hx).1;omega);(·simp at hok)))))
theorem Nu (routes:List fH) (hrt:∀r∈routes,Cr.dU r=true):∀(l:List fH) (n:Option Cr.Node),(∀r∈l,r∈routes)→wX (fun r=>r∈routes) 0 n→wX (fun r=>r∈routes) 0 (Cr.dV n l)
  |[],n,_,h=>by simpa[Cr.dV]using h
  |r::l,n,hl,h=>by
    simp only[Cr.dV]
    have hr:=hl r (by simp)
    refine Nu routes hrt l _ (fun x hx=>hl x (by simp[hx])) ?_
    refine wX.put hr _ 0 n h ?_ (by simp[FU])
    apply KI
    have:=hrt r hr
    unfold Cr.dU at this
    cases hp:(Cr.pattern r.pattern).2 with
    |true=>rfl
    |false=>rw[hp]at this;simp at this
theorem qo {l:List fH} (h:Cr.bG l=0):(∀r∈l,Cr.dU r=true)∧l.length≤24:=by unfold Cr.bG at h;split at h;(·cases h);(·rename_i h1;split at h;(·cases h);(·rename_i h2;refine⟨?_,by omega⟩;simpa using h1))
theorem FX (s:Cr.iJ) (l:List fH) (path:List Str):∀e∈Cr.gy path (s.set l).root,∀r∈e,r∈(s.set l).routes∧wo r path:=by unfold Cr.iJ.set;simp only;obtain⟨l',hl'⟩:∃l',(if Cr.bG l≠0 then []else l)=l':=⟨_,rfl⟩;rw[hl'];(have hrt:∀r∈l',Cr.dU r=true:=by rw[←hl'];split;(·intro r hr;simp at hr);(·rename_i h;exact(qo (by simpa using h)).1));have hd:=Nu l' hrt l' none (fun r hr=>hr) (.nil 0);intro e he r hr;have:=wX.gy path 0 _ hd e he r hr;refine⟨this.1,fun i s hs _=>?_⟩;have hi:=(List.getElem?_eq_some_iff.1 hs).1;have h2:=this.2;unfold FU at h2;omega
end Go.Proofs.YthcbjeeajoliiaaGreatDoor
