/- Lemmas for ScriptRuns. -/
import Derived.Test.YthcbjeeajoliiaaGreatDoorM21
import Derived.Test.YthcbjeeajoliiaaGreatDoorM27
set_option maxRecDepth 100000
set_option maxHeartbeats 4000000
set_option linter.unusedVariables false
set_option linter.unusedSimpArgs false
namespace Go.Proofs.YthcbjeeajoliiaaGreatDoor
open Go.RowKit
open Cr (Str fH iJ)
open Tryz
def ji:Tag:=(22,0)
structure CV (s:iJ):Prop where
  found:∀path,∀e∈Cr.gy path s.root,∀r∈e,r∈s.routes∧wo r path
  few:s.routes.length≤24
  small:∀r∈s.routes,gY r
theorem CV.aA (s:iJ) (l:List fH) (hl:∀r∈l,gY r):CV (s.set l):=by refine⟨fun path=>FX s l path,?_,?_⟩;(·unfold iJ.set;simp only;split;(·simp);(·rename_i h;exact(qo (by simpa using h)).2));(·unfold iJ.set;simp only;split;(·simp);(·exact hl))
def wG (φ:ag) (w:World) (gh:Nat) (s:iJ):Prop:=
  ∃gT A c size,At φ ji w gh 133 #[.pointer (some ⟨gT,0,none⟩),.int .i64 s.version,.slice A s.routes.length c]∧CP (fun i=>φ i=aT) 30 w gT s.root size∧CV s
theorem CP.keep {W:Tag→Prop} {φ φ':ag} {w w':World} {N g:Nat} {t:Option Cr.Node} {size:Int} (h:CP (fun i=>φ i=aT) N w g t size) (s:Stp W φ φ' w w') (hn:¬W aT):CP (fun i=>φ' i=aT) N w' g t size:=by obtain⟨h1,q,h2,h3⟩:=h;(have hs:∀k,φ k=aT→¬W (φ k):=fun k hk=>by rw[hk];exact hn);refine⟨(s.ext g h2.lt).trans h1,q,h2.fr s.fr (hs g h1),?_⟩;have h4:=(h3.mono (P':=fun i=>φ i=aT∧i<w.heap.size) (Nat.le_refl _) (fun k hk hp=>⟨hp,hk⟩)).fr s.fr (fun k hk=>hs k hk.1);exact h4.mono (Nat.le_refl _) (fun k _ hk=>(s.ext k hk.2).trans hk.1)
theorem wG.keep {W:Tag→Prop} {φ φ':ag} {w w':World} {gh:Nat} {s:iJ} (h:wG φ w gh s) (st:Stp W φ φ' w w') (h0:¬W aT) (h1:¬W ji):wG φ' w' gh s:=by obtain⟨gT,A,c,size,h2,h3,h4⟩:=h;exact⟨gT,A,c,size,h2.keep st h1,h3.keep st h0,h4⟩
theorem NZ (φ:ag) (w:World) (gh:Nat) (s:iJ) (h:wG φ w gh s):Calls prog 63 #[.pointer (some ⟨gh,0,none⟩)] w fun e w'=>∃gT A c size,e=.returned (.agg #[.pointer (some ⟨gT,0,none⟩),.int .i64 s.version,.slice A s.routes.length c])∧CP (fun i=>φ i=aT) 30 w' gT s.root size∧Fr No w w':=by have hres:Tryz.f63.results=#[.cell 2 123]:=rfl;obtain⟨gT,A,c,size,h2,h3,h4⟩:=h;have c0:=h2.cell 0;have c1:=h2.cell 1;have c2:=h2.cell 2;simp only[bC]at c0 c1 c2;have hlt:=h2.lt;have f:Fr No w (w.alloc (.cells #[.pointer (some ⟨gT,0,none⟩),.int .i64 s.version,.slice A s.routes.length c] 123)):=(Fr.refl _ _).alloc _;have H:=ae (And.intro h3 f);clear h2 h3 f;go_enter func63,ntmps63;go_wp2_with fail;have hY:=aO.new w 123 #[.pointer (some ⟨gT,0,none⟩),.int .i64 s.version,.slice A s.routes.length c];have r0:=hY.cell 0;have r1:=hY.cell 1;have r2:=hY.cell 2;simp only[bC]at r0 r1 r2;refine bodyPost_ret (v:=.agg #[.pointer (some ⟨gT,0,none⟩),.int .i64 s.version,.slice A s.routes.length c]) (by simp[results,hres,go_sem,r0,r1,r2]) rfl ⟨gT,A,c,size,rfl,?_,H.out.2⟩;exact H.out.1.keep (Stp.af H.out.2 (fun _=>False) φ) id
theorem lY (N:Nat):∀(ls:List Str) (out l:List fH),(∀x∈ls,x.length≤N)→(∀r∈out,r.method.length≤N∧r.pattern.length≤N∧r.handler.length≤N)→Cr.parseLines out ls=some l→∀r∈l,r.method.length≤N∧r.pattern.length≤N∧r.handler.length≤N
  |[],out,l,_,ho,h=>by
    simp only[Cr.parseLines,Option.some.injEq]at h
    subst h
    exact ho
  |x::ls,out,l,hx,ho,h=>by
    have hxs:=hx x (by simp)
    have hls:∀y∈ls,y.length≤N:=fun y hy=>hx y (by simp[hy])
    unfold Cr.parseLines at h
    have hw:∀y∈(Cr.words x 32).filter (fun x=>!x.isEmpty),y.length≤N:=fun y hy=>Nat.le_trans (dG x 32 y (List.mem_filter.1 hy).1) hxs
    split at h
    · exact lY N ls out l hls ho h
    · rename_i m p hd he
      rw[he]at hw
      refine lY N ls _ l hls ?_ h
      intro r hr
      rcases List.mem_append.1 hr with hr|hr
      · exact ho r hr
      · simp only[List.mem_singleton]at hr
        subst hr
        exact⟨hw _ (by simp),hw _ (by simp),hw _ (by simp)⟩
    · cases h
theorem N7 (s:Str) (hs:s.length≤1000000):∀r∈(Cr.bD s).1,gY r:=by unfold Cr.bD;split;(·intro r hr;simp at hr);(·rename_i l hl;have:=lY s.length _ _ _ (dG s 10) (by simp) hl;simp only;split;(·intro r hr;simp at hr);(·intro r hr;have h:=this r hr;exact⟨by omega,by omega,by omega⟩))
theorem Xv (s:Str) (h:(Cr.bD s).2=0):Cr.bG (Cr.bD s).1=0:=by unfold Cr.bD at h⊢;split at h;(·cases h);(·rename_i l hl;simp only at h⊢;split at h;(·rename_i hc;exact absurd h hc);(·rename_i hc;(have hc0:Cr.bG l=0:=by(by_cases h0:Cr.bG l=0);(·exact h0);(·exact absurd h0 hc));simp[hc0]))
structure Laid (φ:ag) (w:World):Prop where
  tabs:Tabs w
  deb:Qd w
  hands:Hands w
  tag:φ 0=aT∧φ 3=aT∧φ 1=aT
theorem Laid.keep {W:Tag→Prop} {φ φ':ag} {w w':World} (h:Laid φ w) (s:Stp W φ φ' w w') (hn:¬W aT):Laid φ' w':=by obtain⟨h1,h2,h3,t1,t2,t3⟩:=h;(have l2:3<w.heap.size:=by obtain⟨t,fr,cs,hb,_⟩:=h2;exact(Array.getElem?_eq_some_iff.1 hb).1);exact⟨h1.fr s.fr (by rw[t1];exact hn),h2.fr s.fr (by rw[t2];exact hn),h3.fr s.fr (by rw[t3];exact hn),(s.ext _ h1.lt).trans t1,(s.ext _ l2).trans t2,(s.ext _ h3.lt).trans t3⟩
theorem Laid.no {φ:ag} {w w':World} (h:Laid φ w) (hf:Fr No w w'):Laid φ w':=h.keep (Stp.af hf (fun _=>False) φ) id
theorem swap_any (φ:ag) (w:World) (gh:Nat) (s:iJ) (text:Str) (h:wG φ w gh s) (hl:Laid φ w) (ht:text.length≤900000) (hv0:0≤s.version) (hv1:s.version≤1000000000):Calls prog 198 #[.pointer (some ⟨gh,0,none⟩),.string ⟨text.toArray⟩] w fun e w'=>∃φ',e=.returned (.tuple #[.int .i64 (if(Cr.bD text).2=0 then(s.set (Cr.bD text).1).version else 0),.int .i64 (Cr.bD text).2])∧wG φ' w' gh (if(Cr.bD text).2=0 then s.set (Cr.bD text).1 else s)∧Stp (fun t=>t=ji) φ φ' w w':=by have HP:=ae (parse_any w hl.hands text ht);have hps:=N7 text (by omega);have hpo:=Xv text;obtain⟨PT,Rq⟩:=ak (Cr.bD text);obtain⟨l,e0⟩:=PT;rw[Rq]at HP hps hpo⊢;simp only at HP hps hpo⊢;clear Rq;(by_cases he:e0=0);(·subst he;have hck:=hpo rfl;have hlen:=(qo hck).2;have hch:chosen l=l:=if_pos hck;(have hset:s.set l=⟨Cr.dV none l,s.version+1,l⟩:=by unfold iJ.set;simp only;rw[if_neg (by simp[hck])]);have hok:=CV.aA s l hps;rw[hset]at hok;rw[if_pos rfl,if_pos rfl,hset];have HK:=ae (And.intro hok (And.intro h hl));obtain⟨gT,A,c,size,h2,h3,h4⟩:=h;have HS:=ae (fun W (hf:Fr No w W) A' c' (hr:Rd (fun _=>True) W A' (iT l))=>set_any (fun _=>True) W (hl.hands.fr hf id) gh (some ⟨gT,0,none⟩) s.version A s.routes.length c A' c' l (h2.2.fr hf id) hv0 hv1 hr (by omega) hps);rw[hch]at HS;have amW:=h2.lt;have Hh2:=ae h2.1;clear hpo hps hck hch hset hok h2 h3 h4 hl;go_enter func198,ntmps198;go_wp2_with (go_at_call 44;refine aB HP.out ?_);refine au ?_;rintro e w1 v rfl hown hf1;obtain⟨A1,c1,rfl,_,hr1⟩:=aK hown;have HS1:=ae (HS.out w1 hf1 A1 c1 (hr1.mono fun _ _ _=>trivial));go_wp2_with (go_at_call 64;refine aB HS1.out ?_);refine au ?_;rintro e w2 gT2 aei v2 rfl ahQ hb2 We hn2 hown2 hf2;obtain⟨A2,c2,rfl,_,_⟩:=aK hown2;have d1:=hb2.cell 1;simp only[bC]at d1;have H2:=ae (And.intro hb2 (And.intro We (And.intro hn2 (And.intro hf2 hf1))));clear hb2 We hn2 hf2 hf1 hown hown2 hr1;go_wp2_with fail;go_ret2;obtain⟨hb2,We,hn2,hf2,hf1⟩:=H2.out;have hsz:=hf1.size;have st:Stp (fun t=>t=ji) φ (φ.more w1.heap.size aT) w w2:=⟨fun k hk=>ag.di (by omega),(hf1.mono (S':=fun k=>φ k=ji) fun _ _ h=>absurd h id).trans hf2 (fun i hi h=>by subst h;exact Hh2.out)⟩;(have hlen2:l.length+1≤30:=by omega);refine⟨_,rfl,⟨gT2,A2,c2,_,⟨?_,hb2⟩,⟨ag.az ahQ,aei,We,hn2.mono hlen2 (fun k _ hk=>ag.az hk.1)⟩,HK.out.1⟩,st⟩;rw[ag.di (by omega)];exact Hh2.out);(·rw[if_neg he,if_neg he];(have hne:(e0==0)=false:=by simpa using he);have H0:=ae h;clear he hpo h hl;go_enter func198,ntmps198;go_wp2_with (go_at_call 44;refine aB HP.out ?_);refine au ?_;rintro e w1 v rfl hown hf1;obtain⟨A1,c1,rfl,_,hr1⟩:=aK hown;go_wp2_with fail;go_ret2;exact⟨φ,rfl,H0.out.keep (Stp.af hf1 (fun _=>False) φ) id id,Stp.af hf1 _ φ⟩)
end Go.Proofs.YthcbjeeajoliiaaGreatDoor
