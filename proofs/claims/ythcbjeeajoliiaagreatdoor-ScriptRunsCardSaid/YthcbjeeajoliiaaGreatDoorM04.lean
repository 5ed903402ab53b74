/- Lemmas for ScriptRuns. -/
import Derived.OrdersHeld
import Derived.Deep.RegionHeld
import Derived.RegionTactic
import Derived.Test.YthcbjeeajoliiaaGreatDoorM00
set_option maxRecDepth 100000
set_option maxHeartbeats 4000000
set_option linter.unusedVariables false
set_option linter.unusedSimpArgs false
namespace Go.Proofs.YthcbjeeajoliiaaGreatDoor
open Go.RowKit
section
variable {P:Program} {ops:Array Oper} {Q:Exit→Act→World→Prop} {md:Region.Mode}
theorem gX {S S':World→Prop} (hS:∀w,S' w→S w):∀(fuel:Nat) (listed:Array Bool) (a:Act) (w:World),
    wpAnyH P md ops Q S' fuel listed a w→wpAnyH P md ops Q S fuel listed a w
  |0,_,_,_,h=>h
  |fuel+1,_,_,_,h=>⟨h.1,fun i hi=>wpOp_mono (fun a' w' h'=>⟨hS _ h'.1,gX hS fuel _ a' w' h'.2⟩) (h.2 i hi)⟩
def Cf (P:Program) (ops:Array Oper) (Q:Exit→Act→World→Prop) (R:World→World→Prop):List (Nat×Bool)→Act→World→Prop
  |[],a,w=>Q .normal a w
  |(i,false)::rest,a,w=>∃oi,ops[i]? =some oi∧
      (if Region.wanted oi (yielded ops a.tmps)=true then∃v,(∀w',R w w'→(execOp a.eval oi).run P w'=.ok (.value v) w')∧Cf P ops Q R rest (a.put oi.dst v) w
       else Cf P ops Q R rest (a.put oi.dst undef) w)
  |(i,true)::rest,a,w=>∃oi,ops[i]? =some oi∧
      ∀K:Act→World→Prop,(∀a' w',R w w'→Cf P ops Q R rest a' w'→K a' w')→(if Region.wanted oi (yielded ops a.tmps)=true then Oper.wp P oi a w K Q else K (a.put oi.dst undef) w)
def vO (ops:Array Oper):Array Bool→List (Nat×Bool)→Bool
  |listed,[]=>(Region.ready .any ops listed).isEmpty
  |listed,(i,false)::rest=>Region.free .any ops listed i&&(Region.ready .any ops listed).contains i&&vO ops (listed.setIfInBounds i true) rest
  |listed,(i,true)::rest=>(Region.ready .any ops listed==[i])&&vO ops (listed.setIfInBounds i true) rest
theorem tJ (R:World→World→Prop) (hrefl:∀w,R w w) (bT:∀a b c,R a b→R b c→R a c) (hsel:Region.noSelect ops=true)
    (hQ:∀c a d v w,Q (.panic c) (a.put d v) w→Q (.panic c) a w):
    ∀(plan:List (Nat×Bool)) (listed:Array Bool) (a:Act) (w:World),vO ops listed plan=true→Cf P ops Q R plan a w→wpAnyH P .any ops Q (R w) plan.length listed a w
  |[],listed,a,w,hp,h=>wpAnyH_done (by simpa[vO]using hp) h _
  |(i,false)::rest,listed,a,w,hp,h=>by
    simp only[vO,Bool.and_eq_true]at hp
    obtain⟨oi,hi,h⟩:=h
    by_cases hw:Region.wanted oi (yielded ops a.tmps)=true
    · rw[if_pos hw]at h
      obtain⟨v,hv,h⟩:=h
      exact wpAnyH_take hi hsel hp.1.1 hp.1.2 (fun c a w h=>hQ c a _ _ w h) (.inl ⟨hw,hv⟩) (hrefl w) (tJ R hrefl bT hsel hQ rest _ _ w hp.2 h)
    · rw[if_neg hw]at h
      exact wpAnyH_take hi hsel hp.1.1 hp.1.2 (fun c a w h=>hQ c a _ _ w h) (.inr ⟨by simpa using hw,rfl⟩) (hrefl w) (tJ R hrefl bT hsel hQ rest _ _ w hp.2 h)
  |(i,true)::rest,listed,a,w,hp,h=>by
    simp only[vO,Bool.and_eq_true,beq_iff_eq]at hp
    obtain⟨oi,hi,h⟩:=h
    refine wpAnyH_all hp.1 (by simp) ?_
    intro j hj
    obtain rfl:j=i:=by simpa using hj
    refine wpOp_step hi fun K hK=>h K fun a' w' hR hwp=>hK a' w' ⟨hR,?_⟩
    exact gX (fun x hx=>bT _ _ _ hR hx) _ _ _ _ (tJ R hrefl bT hsel hQ rest _ _ w' hp.2 hwp)
theorem EY {id:Nat} {a:Act} {w:World} (R:World→World→Prop) (plan:List (Nat×Bool)) (hm:P.follows .mixedOrders=true) (hrefl:∀w,R w w) (bT:∀a b c,R a b→R b c→R a c) (hQ:∀c a d v w,Q (.panic c) (a.put d v) w→Q (.panic c) a w) (hok:(Region.noSelect ops&&vO ops (Array.replicate ops.size false) plan&&plan.length==ops.size)=true) (h:Cf P ops Q R plan a w.drew):(Code.region id ops true).wp P Q a w:=by simp only[Bool.and_eq_true,beq_iff_eq]at hok;refine wp_region_held (S:=R w.drew) hm ?_;have h':=tJ R hrefl bT hok.1.1 (Q:=Q) hQ plan (Array.replicate ops.size false) a w.drew hok.1.2 h;rw[hok.2]at h';exact h'
def iD (P:Program) (ops:Array Oper) (Q:Exit→Act→World→Prop) (R:World→World→Prop):List (Oper×Bool)→Act→World→Prop
  |[],a,w=>Q .normal a w
  |(oi,false)::rest,a,w=>
      (if Region.wanted oi (yielded ops a.tmps)=true then∃v,(∀w',R w w'→(execOp a.eval oi).run P w'=.ok (.value v) w')∧iD P ops Q R rest (a.put oi.dst v) w
       else iD P ops Q R rest (a.put oi.dst undef) w)
  |(oi,true)::rest,a,w=>
      ∀K:Act→World→Prop,(∀a' w',R w w'→iD P ops Q R rest a' w'→K a' w')→(if Region.wanted oi (yielded ops a.tmps)=true then Oper.wp P oi a w K Q else K (a.put oi.dst undef) w)
def qO (ops:Array Oper):List (Nat×Bool)→Option (List (Oper×Bool))
  |[]=>some []
  |(i,b)::rest=>match ops[i]?,qO ops rest with
    |some o,some l=>some ((o,b)::l)
    |_,_=>none
theorem qP {R:World→World→Prop}:∀(plan:List (Nat×Bool)) (l:List (Oper×Bool)) (a:Act) (w:World),qO ops plan=some l→iD P ops Q R l a w→Cf P ops Q R plan a w
  |[],l,a,w,hl,h=>by
    simp only[qO,Option.some.injEq]at hl
    subst hl
    exact h
  |(i,b)::rest,l,a,w,hl,h=>by
    simp only[qO]at hl
    split at hl
    · rename_i o l' ho hr
      simp only[Option.some.injEq]at hl
      subst hl
      cases b with
      |false=>
        refine⟨o,ho,?_⟩
        simp only[iD]at h
        by_cases hw:Region.wanted o (yielded ops a.tmps)=true
        · rw[if_pos hw]at h⊢
          obtain⟨v,hv,h⟩:=h
          exact⟨v,hv,qP rest l' _ w hr h⟩
        · rw[if_neg hw]at h⊢
          exact qP rest l' _ w hr h
      |true=>exact⟨o,ho,fun K hK=>h K fun a' w' hR hs=>hK a' w' hR (qP rest l' a' w' hr hs)⟩
    · cases hl
theorem Ep {id:Nat} {a:Act} {w:World} (R:World→World→Prop) (plan:List (Nat×Bool)) (hm:P.follows .mixedOrders=true) (hrefl:∀w,R w w) (bT:∀a b c,R a b→R b c→R a c) (hQ:∀c a d v w,Q (.panic c) (a.put d v) w→Q (.panic c) a w) (hok:(Region.noSelect ops&&vO ops (Array.replicate ops.size false) plan&&plan.length==ops.size)=true) (h:∀l,qO ops plan=some l→iD P ops Q R l a w.drew) (hl:(qO ops plan).isSome=true):(Code.region id ops true).wp P Q a w:=by obtain⟨l,hl⟩:=Option.isSome_iff_exists.1 hl;exact EY R plan hm hrefl bT hQ hok (qP plan l a w.drew hl (h l hl))
section
variable {R:World→World→Prop} {rest:List (Oper×Bool)} {a:Act} {w:World} {oi:Oper}
theorem EZ (v:Value) (hw:Region.wanted oi (yielded ops a.tmps)=true) (hv:∀w',R w w'→(execOp a.eval oi).run P w'=.ok (.value v) w') (h:iD P ops Q R rest (a.put oi.dst v) w):iD P ops Q R ((oi,false)::rest) a w:=by simp only[iD];rw[if_pos hw];exact⟨v,hv,h⟩
theorem PE (hw:Region.wanted oi (yielded ops a.tmps)=false) (h:iD P ops Q R rest (a.put oi.dst undef) w):iD P ops Q R ((oi,false)::rest) a w:=by simp only[iD];rw[if_neg (by simp[hw])];exact h
theorem yE (hw:Region.wanted oi (yielded ops a.tmps)=true) (h:∀K:Act→World→Prop,(∀a' w',R w w'→iD P ops Q R rest a' w'→K a' w')→Oper.wp P oi a w K Q):iD P ops Q R ((oi,true)::rest) a w:=by simp only[iD];intro K hK;rw[if_pos hw];exact h K hK
theorem aQ (h:Q .normal a w):iD P ops Q R [] a w:=h
end
end
class gU (R:World→World→Prop):Prop where
  refl':∀w,R w w
  trans':∀a b c,R a b→R b c→R a c
theorem gU.refl (R:World→World→Prop) [h:gU R]:∀w,R w w:=h.refl'
theorem gU.trans (R:World→World→Prop) [h:gU R]:∀a b c,R a b→R b c→R a c:=h.trans'
instance (S:Nat→Prop):gU (Fr S):=⟨fun w=>Fr.refl S w,fun _ _ _ h k=>h.trans k (fun _ _ h=>h)⟩
instance:gU (fun _ _=>True):=⟨fun _=>trivial,fun _ _ _ _ _=>trivial⟩
section
variable {P:Program} {ops:Array Oper} {Q:Exit→Act→World→Prop}
def plS:List Nat→List (Nat×Bool)|[]=>[]|i::l=>(if i<100 then (i,false) else (i-100,true))::plS l
theorem aZ {id:Nat} {a:Act} {w:World} {G:Prop} (R:World→World→Prop) [gU R] (p:List Nat) (k:G) (e:Hid G→∀l,qO ops (plS p)=some l→iD P ops Q R l a w.drew:=by intro h l hl;simp only[plS,Nat.reduceLT,Nat.reduceSub,if_true,if_false,↓reduceIte,qO,bC,Option.some.injEq]at hl;subst hl;exact h.out) (hm:P.follows .mixedOrders=true:=by rfl) (hQ:∀c a d v w,Q (.panic c) (a.put d v) w→Q (.panic c) a w:=by intro c a d v w h;cases d<;>exact h) (hok:(Region.noSelect ops&&vO ops (Array.replicate ops.size false) (plS p)&&List.length (plS p)==ops.size)=true:=by kernel_rfl) (hl:(qO ops (plS p)).isSome=true:=by kernel_rfl):(Code.region id ops true).wp P Q a w:=Ep R (plS p) hm (gU.refl R) (gU.trans R) hQ hok (e (Lib.hid k)) hl
theorem aS {G T:Prop} (k:G) (e:Hid G→T:=by intro h;refine EZ ?_ (by rfl) (fun w' hR=>?_) ?_;rotate_left;(focus go_simp;try with_reducible rfl);simp only[dF];exact h.out):T:=e (Lib.hid k)
theorem aV {R:World→World→Prop} {rest:List (Oper×Bool)} {a:Act} {w:World} {oi:Oper} {G:Prop} {X:World→Prop} (F:∀w',R w w'→X w') (k:G) (e:Hid (∀w',R w w'→X w')→Hid G→iD P ops Q R ((oi,false)::rest) a w:=by intro F h;refine EZ ?_ (by rfl) (fun w' hR=>?_) ?_;rotate_left;(focus have z:=F.out w' hR;go_simp;try with_reducible rfl);simp only[dF];exact h.out):iD P ops Q R ((oi,false)::rest) a w:=e (Lib.hid F) (Lib.hid k)
theorem KZ {G T:Prop} (k:G) (e:Hid G→T:=by intro h;refine PE (by rfl) ?_;simp only[dF];exact h.out):T:=e (Lib.hid k)
theorem aj {T:Prop} {H:(Act→World→Prop)→Prop} {G:∀K,H K→Prop} (k:∀K hK,G K hK) (e:Hid (∀K hK,G K hK)→T:=by intro h;refine yE (by rfl) (fun K hK=>?_);go_simp;exact h.out K hK):T:=e (Lib.hid k)
end
inductive PT where
  |nil
  |one (i:Nat) (eff:Bool) (rest:PT)
  |two (i:Nat) (ri:PT) (j:Nat) (rj:PT)
def PT.len:PT→Nat
  | .nil=>0
  | .one _ _ r=>r.len+1
  | .two _ ri _ _=>ri.len+1
inductive ST where
  |nil
  |one (o:Oper) (eff:Bool) (rest:ST)
  |two (o:Oper) (ri:ST) (o':Oper) (rj:ST)
section
variable {P:Program} {ops:Array Oper} {Q:Exit→Act→World→Prop}
def rQ (ops:Array Oper):Array Bool→PT→Bool
  |listed,.nil=>(Region.ready .any ops listed).isEmpty
  |listed,.one i false r=>Region.free .any ops listed i&&(Region.ready .any ops listed).contains i&&rQ ops (listed.setIfInBounds i true) r
  |listed,.one i true r=>(Region.ready .any ops listed==[i])&&rQ ops (listed.setIfInBounds i true) r
  |listed,.two i ri j rj=>(Region.ready .any ops listed==[i,j])&&rQ ops (listed.setIfInBounds i true) ri&&rQ ops (listed.setIfInBounds j true) rj&&(ri.len==rj.len)
def pI (ops:Array Oper):PT→Option ST
  | .nil=>some .nil
  | .one i b r=>match ops[i]?,pI ops r with
    |some o,some s=>some (.one o b s)
    |_,_=>none
  | .two i ri j rj=>match ops[i]?,pI ops ri,ops[j]?,pI ops rj with
    |some o,some s,some o',some s'=>some (.two o s o' s')
    |_,_,_,_=>none
def sW (P:Program) (ops:Array Oper) (Q:Exit→Act→World→Prop) (R:World→World→Prop):ST→Act→World→Prop
  | .nil,a,w=>Q .normal a w
  | .one oi false r,a,w=>
      (if Region.wanted oi (yielded ops a.tmps)=true then∃v,(∀w',R w w'→(execOp a.eval oi).run P w'=.ok (.value v) w')∧sW P ops Q R r (a.put oi.dst v) w
       else sW P ops Q R r (a.put oi.dst undef) w)
  | .one oi true r,a,w=>
      ∀K:Act→World→Prop,(∀a' w',R w w'→sW P ops Q R r a' w'→K a' w')→(if Region.wanted oi (yielded ops a.tmps)=true then Oper.wp P oi a w K Q else K (a.put oi.dst undef) w)
  | .two oi ri oj rj,a,w=>
      (∀K:Act→World→Prop,(∀a' w',R w w'→sW P ops Q R ri a' w'→K a' w')→(if Region.wanted oi (yielded ops a.tmps)=true then Oper.wp P oi a w K Q else K (a.put oi.dst undef) w))∧
      (∀K:Act→World→Prop,(∀a' w',R w w'→sW P ops Q R rj a' w'→K a' w')→(if Region.wanted oj (yielded ops a.tmps)=true then Oper.wp P oj a w K Q else K (a.put oj.dst undef) w))
theorem nO (R:World→World→Prop) (hrefl:∀w,R w w) (bT:∀a b c,R a b→R b c→R a c) (hsel:Region.noSelect ops=true)
    (hQ:∀c a d v w,Q (.panic c) (a.put d v) w→Q (.panic c) a w):
    ∀(t:PT) (s:ST) (listed:Array Bool) (a:Act) (w:World),rQ ops listed t=true→pI ops t=some s→sW P ops Q R s a w→wpAnyH P .any ops Q (R w) t.len listed a w
  | .nil,s,listed,a,w,hp,hs,h=>by
    simp only[pI,Option.some.injEq]at hs
    subst hs
    exact wpAnyH_done (by simpa[rQ]using hp) h _
  | .one i false r,s,listed,a,w,hp,hs,h=>by
    simp only[rQ,Bool.and_eq_true]at hp
    simp only[pI]at hs
    split at hs
    · rename_i o s' hi hs'
      simp only[Option.some.injEq]at hs
      subst hs
      simp only[sW]at h
      by_cases hw:Region.wanted o (yielded ops a.tmps)=true
      · rw[if_pos hw]at h
        obtain⟨v,hv,h⟩:=h
        exact wpAnyH_take hi hsel hp.1.1 hp.1.2 (fun c a w h=>hQ c a _ _ w h) (.inl ⟨hw,hv⟩) (hrefl w) (nO R hrefl bT hsel hQ r _ _ _ w hp.2 hs' h)
      · rw[if_neg hw]at h
        exact wpAnyH_take hi hsel hp.1.1 hp.1.2 (fun c a w h=>hQ c a _ _ w h) (.inr ⟨by simpa using hw,rfl⟩) (hrefl w) (nO R hrefl bT hsel hQ r _ _ _ w hp.2 hs' h)
    · cases hs
  | .one i true r,s,listed,a,w,hp,hs,h=>by
    simp only[rQ,Bool.and_eq_true,beq_iff_eq]at hp
    simp only[pI]at hs
    split at hs
    · rename_i o s' hi hs'
      simp only[Option.some.injEq]at hs
      subst hs
      refine wpAnyH_all hp.1 (by simp) ?_
      intro j hj
      obtain rfl:j=i:=by simpa using hj
      refine wpOp_step hi fun K hK=>h K fun a' w' hR hwp=>hK a' w' ⟨hR,?_⟩
      exact gX (fun x hx=>bT _ _ _ hR hx) _ _ _ _ (nO R hrefl bT hsel hQ r _ _ _ w' hp.2 hs' hwp)
    · cases hs
  | .two i ri j rj,s,listed,a,w,hp,hs,h=>by
    simp only[rQ,Bool.and_eq_true,beq_iff_eq]at hp
    obtain⟨⟨⟨hr,h1⟩,h2⟩,hlen⟩:=hp
    simp only[pI]at hs
    split at hs
    · rename_i o s1 o' s2 hi hs1 hj hs2
      simp only[Option.some.injEq]at hs
      subst hs
      refine wpAnyH_all hr (by simp) ?_
      intro q hq
      simp only[List.mem_cons,List.not_mem_nil,or_false]at hq
      rcases hq with rfl|rfl
      · refine wpOp_step hi fun K hK=>h.1 K fun a' w' hR hwp=>hK a' w' ⟨hR,?_⟩
        exact gX (fun x hx=>bT _ _ _ hR hx) _ _ _ _ (nO R hrefl bT hsel hQ ri _ _ _ w' h1 hs1 hwp)
      · refine wpOp_step hj fun K hK=>h.2 K fun a' w' hR hwp=>hK a' w' ⟨hR,?_⟩
        rw[hlen]
        exact gX (fun x hx=>bT _ _ _ hR hx) _ _ _ _ (nO R hrefl bT hsel hQ rj _ _ _ w' h2 hs2 hwp)
    · cases hs
theorem Ff {id:Nat} {a:Act} {w:World} (R:World→World→Prop) (t:PT) (hm:P.follows .mixedOrders=true) (hrefl:∀w,R w w) (bT:∀a b c,R a b→R b c→R a c) (hQ:∀c a d v w,Q (.panic c) (a.put d v) w→Q (.panic c) a w) (hok:(Region.noSelect ops&&rQ ops (Array.replicate ops.size false) t&&t.len==ops.size)=true) (h:∀s,pI ops t=some s→sW P ops Q R s a w.drew) (hl:(pI ops t).isSome=true):(Code.region id ops true).wp P Q a w:=by obtain⟨s,hs⟩:=Option.isSome_iff_exists.1 hl;simp only[Bool.and_eq_true,beq_iff_eq]at hok;refine wp_region_held (S:=R w.drew) hm ?_;have h':=nO R hrefl bT hok.1.1 (Q:=Q) hQ t s (Array.replicate ops.size false) a w.drew hok.1.2 hs (h s hs);rw[hok.2]at h';exact h'
section
variable {R:World→World→Prop} {rest ri rj:ST} {a:Act} {w:World} {oi oj:Oper}
theorem Fg (v:Value) (hw:Region.wanted oi (yielded ops a.tmps)=true) (hv:∀w',R w w'→(execOp a.eval oi).run P w'=.ok (.value v) w') (h:sW P ops Q R rest (a.put oi.dst v) w):sW P ops Q R (.one oi false rest) a w:=by simp only[sW];rw[if_pos hw];exact⟨v,hv,h⟩
theorem Tz (hw:Region.wanted oi (yielded ops a.tmps)=true) (h:∀K:Act→World→Prop,(∀a' w',R w w'→sW P ops Q R rest a' w'→K a' w')→Oper.wp P oi a w K Q):sW P ops Q R (.one oi true rest) a w:=by simp only[sW];intro K hK;rw[if_pos hw];exact h K hK
theorem Fh (hwi:Region.wanted oi (yielded ops a.tmps)=true) (hwj:Region.wanted oj (yielded ops a.tmps)=true) (hi:∀K:Act→World→Prop,(∀a' w',R w w'→sW P ops Q R ri a' w'→K a' w')→Oper.wp P oi a w K Q) (hj:∀K:Act→World→Prop,(∀a' w',R w w'→sW P ops Q R rj a' w'→K a' w')→Oper.wp P oj a w K Q):sW P ops Q R (.two oi ri oj rj) a w:=by simp only[sW];refine⟨fun K hK=>?_,fun K hK=>?_⟩;(·rw[if_pos hwi];exact hi K hK);(·rw[if_pos hwj];exact hj K hK)
theorem xJ (h:Q .normal a w):sW P ops Q R .nil a w:=h
end
end
section
variable {P:Program} (w:World)
theorem zI {Pr:Nat→Prop} {o:Oper} {a:Act} {K:Act→World→Prop} {Q:Exit→Act→World→Prop} (s x:Operand) (t:TypeId) (ho:o.op=.call {callee:=.builtin .append,args:=#[s,x],argTypes:=#[t,t]}) (base:Nat) (e:TypeId) (z:Value) (size bytes:Nat) (ht:P.underlying t=some (.slice e)) (hinfo:(P.info? e).map (fun i=>(i.zero,i.size,i.bytes))=some (some z,size,bytes)) (hzs:z.cells.size=size) (hsz:0<size) (v:Value) (n:Nat) (xs:List Value) (hs:a.eval s=v) (hown:w.ownsRow base e size v n xs) (A:Option Addr) (m c:Nat) (news:List Value) (hx:a.eval x=.slice A m c) (hl:news.length=m*size) (hr:Rd Pr w A news) (h1:∀u∈news,u.oneCell'=true) (hbytes:(n+m)*bytes≤140737488355328) (hb0:0<bytes) (hbase:base≤w.heap.size) (h:∀v' w',w'.ownsRow base e size v' (n+m) (xs++news)→Fr (fun k=>v.ownBlock=some k) w w'→(v'.ownBlock=v.ownBlock∨v'.ownBlock=some w.heap.size)→K (a.put o.dst v') w'):Oper.wp P o a w K Q:=by obtain⟨v',w',hrun,h2,h3,h4⟩:=Ri (P:=P) w base t o.type e z size bytes ht hinfo hzs hsz v n xs hown A m c news hl hr h1 hbytes hb0 hbase;unfold Oper.wp execOp;simp only[ho,resolve,invoke,builtin,Sem.run_bind,Sem.run_pure,Result.andThen_ok,List.map_toArray,List.map_cons,List.map_nil,hs,hx,hrun];exact h v' w' h2 ((Fr.Md h3).mono fun k _ hk=>hk.symm) h4
end
section
variable {P:Program} {ops:Array Oper} {Q:Exit→Act→World→Prop}
theorem Ro {id:Nat} {a:Act} {w:World} {G:Prop} (R:World→World→Prop) [gU R] (p:PT) (k:G) (e:Hid G→∀l,pI ops p=some l→sW P ops Q R l a w.drew:=by intro h l hl;simp only[pI,bC,Option.some.injEq]at hl;subst hl;exact h.out) (hm:P.follows .mixedOrders=true:=by rfl) (hQ:∀c a d v w,Q (.panic c) (a.put d v) w→Q (.panic c) a w:=by intro c a d v w h;cases d<;>exact h) (hok:(Region.noSelect ops&&rQ ops (Array.replicate ops.size false) p&&p.len==ops.size)=true:=by kernel_rfl) (hl:(pI ops p).isSome=true:=by kernel_rfl):(Code.region id ops true).wp P Q a w:=Ff R p hm (gU.refl R) (gU.trans R) hQ hok (e (Lib.hid k)) hl
theorem yJ {G T:Prop} (k:G) (e:Hid G→T:=by intro h;refine Fg ?_ (by rfl) (fun w' hR=>?_) ?_;rotate_left;(focus go_simp;try with_reducible rfl);simp only[dF];exact h.out):T:=e (Lib.hid k)
theorem Zd {R:World→World→Prop} {rest:ST} {a:Act} {w:World} {oi:Oper} {G:Prop} {X:World→Prop} (F:∀w',R w w'→X w') (k:G) (e:Hid (∀w',R w w'→X w')→Hid G→sW P ops Q R (.one oi false rest) a w:=by intro F h;refine Fg ?_ (by rfl) (fun w' hR=>?_) ?_;rotate_left;(focus have z:=F.out w' hR;go_simp;try with_reducible rfl);simp only[dF];exact h.out):sW P ops Q R (.one oi false rest) a w:=e (Lib.hid F) (Lib.hid k)
theorem iI {T:Prop} {H:(Act→World→Prop)→Prop} {G:∀K,H K→Prop} (k:∀K hK,G K hK) (e:Hid (∀K hK,G K hK)→T:=by intro h;refine Tz (by rfl) (fun K hK=>?_);go_simp;exact h.out K hK):T:=e (Lib.hid k)
end
def oC (ops:Array Oper) (z i:Nat):Bool:=((ops[z]?).map fun o=>o.after.any fun e=>Region.binds .any e&&e.on==i).getD false
section
variable {P:Program} {ops:Array Oper} {Q:Exit→Act→World→Prop} {z:Nat} {S:World→Prop}
def vU (P:Program) (z:Nat) (ops:Array Oper) (Q:Exit→Act→World→Prop) (S:World→Prop):Nat→Array Bool→Act→World→Prop
  |0,listed,a,w=>Region.ready .any ops listed=[]∧Q .normal a w
  |fuel+1,listed,a,w=>
    (Region.ready .any ops listed=[]→Q .normal a w)∧
    ∀i∈Region.ready .any ops listed,wpOp P ops Q i (fun a' w'=>((listed.setIfInBounds i true).getD z false=true∨S w')∧vU P z ops Q S fuel (listed.setIfInBounds i true) a' w') a w
theorem Fq:∀(fuel:Nat) (listed:Array Bool) (a:Act) (w:World),vU P z ops Q S fuel listed a w→wpAny P .any ops Q fuel listed a w
  |0,_,_,_,h=>h
  |fuel+1,_,_,_,h=>⟨h.1,fun i hi=>wpOp_mono (fun a' w' h'=>Fq fuel _ a' w' h'.2) (h.2 i hi)⟩
theorem Dy {S':World→Prop} (hS:∀w,S' w→S w):∀(fuel:Nat) (listed:Array Bool) (a:Act) (w:World),
    vU P z ops Q S' fuel listed a w→vU P z ops Q S fuel listed a w
  |0,_,_,_,h=>h
  |fuel+1,_,_,_,h=>⟨h.1,fun i hi=>wpOp_mono (fun a' w' h'=>⟨h'.1.imp id (hS _),Dy hS fuel _ a' w' h'.2⟩) (h.2 i hi)⟩
theorem J9 {i:Nat} {oi:Oper} {v:Value} (hi:ops[i]? =some oi) (hiz:i≠z) (hsel:∀(j:Nat) (o:Oper) cs b,ops[j]? =some o→o.op≠ .select cs b) (hQ:∀c a w,Q (.panic c) (a.put oi.dst v) w→Q (.panic c) a w):∀(fuel:Nat) (listed:Array Bool) (a:Act) (w:World),(∀j oj,ops[j]? =some oj→j≠i→listed.getD j true=false→(∀e∈oj.after,Region.binds .any e=true→e.on≠i)→oi.apart ops oj=true)→i∈Region.ready .any ops listed→YieldsIf P ops (fun w=>S w∨oC ops z i=false) oi v a→(S w∨oC ops z i=false)→(listed.getD z false=true→oC ops z i=false)→(listed.getD z false=true∨S w)→vU P z ops Q S fuel (listed.setIfInBounds i true) (a.put oi.dst v) w→vU P z ops Q S (fuel+1) listed a w:=by
 (have hsame:∀listed:Array Bool,(listed.setIfInBounds i true).getD z false=listed.getD z false:=fun l=>getD_set_ne false hiz);intro fuel
 induction fuel with
 |zero=>intro listed a w _ hr hy hS hzl hS0 H;refine⟨fun h=>(by rw[h]at hr;cases hr),fun j hj=>?_⟩;(by_cases hji:j=i);(·subst hji;exact hy.wpOp hi hS ⟨by rw[hsame];exact hS0,H⟩);(·have:=ready_mono hj hji;rw[H.1]at this;(cases this))
 |succ fuel ih=>
  intro listed a w hfree hr hy hS hzl hS0 H;refine⟨fun h=>(by rw[h]at hr;cases hr),fun j hj=>?_⟩;(by_cases hji:j=i);(·subst hji;exact hy.wpOp hi hS ⟨by rw[hsame];exact hS0,H⟩)
  · have h1:=H.2 j (ready_mono hj hji);obtain⟨hjun,oj,hoj,hall⟩:=mem_ready.1 hj;(have hnot:∀e∈oj.after,Region.binds .any e=true→e.on≠i:=fun e he hb heq=>by have h1:=hall e he hb;have h0:=(mem_ready.1 hr).1;rw[heq]at h1;(rcases Nat.lt_or_ge i listed.size with h'|h');(·simp[h']at h0 h1;rw[h0]at h1;cases h1);(·simp[Array.getElem?_eq_none h']at h1));(have hz:j=z→oC ops z i=false:=by rintro rfl;unfold oC;rw[hoj];simp only[Option.map_some,Option.getD_some];rw[Array.any_eq_false];intro q hq;simp only[Bool.and_eq_true,beq_iff_eq,not_and];intro hb;exact hnot _ (Array.getElem_mem hq) hb);have h2:=wpOp_putIf hoj (hfree j oj hoj hji hjun hnot) (fun cs b=>hsel i oi cs b hi) (fun cs b=>hsel j oj cs b hoj) hQ hy h1
    have hfree':∀k ok,ops[k]? =some ok→k≠i→(listed.setIfInBounds j true).getD k true=false→
        (∀e∈ok.after,Region.binds .any e=true→e.on≠i)→oi.apart ops ok=true:=fun k ok hk hki hun hno=>by
      refine hfree k ok hk hki ?_ hno
      by_cases hjk:j=k
      · subst hjk;exact hjun
      · rw[getD_set_ne true hjk]at hun;exact hun
    (have WM:(listed.setIfInBounds j true).getD z false=true→oC ops z i=false:=fun h=>by(by_cases hjz:j=z);(·exact hz hjz);(·rw[getD_set_ne false hjz]at h;exact hzl h));(have MS:∀w',(((listed.setIfInBounds i true).setIfInBounds j true).getD z false=true∨S w')→((listed.setIfInBounds j true).getD z false=true∨S w'):=fun w' h=>by rw[Array.setIfInBounds_comm _ _ (Ne.symm hji),hsame]at h;exact h);refine wpOp_mono (fun a' w' h3=>⟨MS w' h3.2.1,ih (listed.setIfInBounds j true) a' w' hfree' (ready_mono hr (Ne.symm hji)) h3.1 ((MS w' h3.2.1).elim (fun h=>.inr (WM h)) .inl) WM (MS w' h3.2.1) ?_⟩) h2;rw[Array.setIfInBounds_comm _ _ hji];exact h3.2.2
theorem tX {i:Nat} {oi:Oper} {v:Value} {fuel:Nat} {listed:Array Bool} {a:Act} {w:World} (hi:ops[i]? =some oi) (hiz:i≠z)
    (hs:Region.noSelect ops=true) (hf:Region.free .any ops listed i=true) (hr:(Region.ready .any ops listed).contains i=true) (hl:listed.getD z false=false)
    (hQ:∀c a w,Q (.panic c) (a.put oi.dst v) w→Q (.panic c) a w) (hy:YieldsIf P ops (fun w=>S w∨oC ops z i=false) oi v a) (hS:S w)
    (h:vU P z ops Q S fuel (listed.setIfInBounds i true) (a.put oi.dst v) w):vU P z ops Q S (fuel+1) listed a w:=
  J9 hi hiz (Region.noSelect_spec hs) hQ fuel listed a w (Region.free_spec hi hf) (by simpa using hr) hy (.inl hS) (fun h=>by rw[hl]at h;cases h) (.inr hS) h
end
inductive PZ where
  |read (i:Nat) (rest:PZ)
  |pure (i:Nat) (rest:PZ)
  |eff (i:Nat) (rest:PZ)
  |last (i:Nat)
inductive SZ where
  |read (o:Oper) (rest:SZ)
  |pure (o:Oper) (rest:SZ)
  |eff (o:Oper) (rest:SZ)
  |last (o:Oper)
def PZ.len:PZ→Nat
  | .read _ r=>r.len+1
  | .pure _ r=>r.len+1
  | .eff _ r=>r.len+1
  | .last _=>1
section
variable {P:Program} {ops:Array Oper} {Q:Exit→Act→World→Prop} {z:Nat}
def YZ (z:Nat) (ops:Array Oper):Array Bool→PZ→Bool
  |listed,.read i r=>(i !=z)&&!listed.getD z false&&oC ops z i&&Region.free .any ops listed i&&(Region.ready .any ops listed).contains i&&YZ z ops (listed.setIfInBounds i true) r
  |listed,.pure i r=>(i !=z)&&!listed.getD z false&&Region.free .any ops listed i&&(Region.ready .any ops listed).contains i&&YZ z ops (listed.setIfInBounds i true) r
  |listed,.eff i r=>(i !=z)&&(Region.ready .any ops listed==[i])&&YZ z ops (listed.setIfInBounds i true) r
  |listed,.last i=>(i==z)&&decide (z<listed.size)&&(Region.ready .any ops listed==[i])&&(Region.ready .any ops (listed.setIfInBounds i true)).isEmpty
def TC (ops:Array Oper):PZ→Option SZ
  | .read i r=>match ops[i]?,TC ops r with
    |some o,some s=>some (.read o s)
    |_,_=>none
  | .pure i r=>match ops[i]?,TC ops r with
    |some o,some s=>some (.pure o s)
    |_,_=>none
  | .eff i r=>match ops[i]?,TC ops r with
    |some o,some s=>some (.eff o s)
    |_,_=>none
  | .last i=>match ops[i]? with
    |some o=>some (.last o)
    |_=>none
def rU (P:Program) (ops:Array Oper) (Q:Exit→Act→World→Prop) (R:World→World→Prop):SZ→Act→World→Prop
  | .read oi r,a,w=>
      (if Region.wanted oi (yielded ops a.tmps)=true then∃v,(∀w',R w w'→(execOp a.eval oi).run P w'=.ok (.value v) w')∧rU P ops Q R r (a.put oi.dst v) w
       else rU P ops Q R r (a.put oi.dst undef) w)
  | .pure oi r,a,w=>
      (if Region.wanted oi (yielded ops a.tmps)=true then∃v,(∀w',(execOp a.eval oi).run P w'=.ok (.value v) w')∧rU P ops Q R r (a.put oi.dst v) w
       else rU P ops Q R r (a.put oi.dst undef) w)
  | .eff oi r,a,w=>
      ∀K:Act→World→Prop,(∀a' w',R w w'→rU P ops Q R r a' w'→K a' w')→(if Region.wanted oi (yielded ops a.tmps)=true then Oper.wp P oi a w K Q else K (a.put oi.dst undef) w)
  | .last oi,a,w=>
      ∀K:Act→World→Prop,(∀a' w',Q .normal a' w'→K a' w')→(if Region.wanted oi (yielded ops a.tmps)=true then Oper.wp P oi a w K Q else K (a.put oi.dst undef) w)
theorem nP (R:World→World→Prop) (hrefl:∀w,R w w) (bT:∀a b c,R a b→R b c→R a c) (hsel:Region.noSelect ops=true)
    (hQ:∀c a d v w,Q (.panic c) (a.put d v) w→Q (.panic c) a w):
    ∀(t:PZ) (s:SZ) (listed:Array Bool) (a:Act) (w:World),YZ z ops listed t=true→TC ops t=some s→rU P ops Q R s a w→vU P z ops Q (R w) t.len listed a w
  | .read i r,s,listed,a,w,hp,hs,h=>by
    simp only[YZ,Bool.and_eq_true,bne_iff_ne,ne_eq,Bool.not_eq_true']at hp
    obtain⟨⟨⟨⟨⟨h1,h2⟩,h3⟩,h4⟩,h5⟩,h6⟩:=hp
    simp only[TC]at hs
    split at hs
    · rename_i o s' hi hs'
      simp only[Option.some.injEq]at hs
      subst hs
      simp only[rU]at h
      by_cases hw:Region.wanted o (yielded ops a.tmps)=true
      · rw[if_pos hw]at h
        obtain⟨v,hv,h⟩:=h
        exact tX hi h1 hsel h4 h5 h2 (fun c a w h=>hQ c a _ _ w h) (.inl ⟨hw,fun w' hw'=>hw'.elim (hv w') (fun hf=>by rw[h3]at hf;cases hf)⟩) (hrefl w) (nP R hrefl bT hsel hQ r _ _ _ w h6 hs' h)
      · rw[if_neg hw]at h
        exact tX hi h1 hsel h4 h5 h2 (fun c a w h=>hQ c a _ _ w h) (.inr ⟨by simpa using hw,rfl⟩) (hrefl w) (nP R hrefl bT hsel hQ r _ _ _ w h6 hs' h)
    · cases hs
  | .pure i r,s,listed,a,w,hp,hs,h=>by
    simp only[YZ,Bool.and_eq_true,bne_iff_ne,ne_eq,Bool.not_eq_true']at hp
    obtain⟨⟨⟨⟨h1,h2⟩,h4⟩,h5⟩,h6⟩:=hp
    simp only[TC]at hs
    split at hs
    · rename_i o s' hi hs'
      simp only[Option.some.injEq]at hs
      subst hs
      simp only[rU]at h
      by_cases hw:Region.wanted o (yielded ops a.tmps)=true
      · rw[if_pos hw]at h
        obtain⟨v,hv,h⟩:=h
        exact tX hi h1 hsel h4 h5 h2 (fun c a w h=>hQ c a _ _ w h) (.inl ⟨hw,fun w' _=>hv w'⟩) (hrefl w) (nP R hrefl bT hsel hQ r _ _ _ w h6 hs' h)
      · rw[if_neg hw]at h
        exact tX hi h1 hsel h4 h5 h2 (fun c a w h=>hQ c a _ _ w h) (.inr ⟨by simpa using hw,rfl⟩) (hrefl w) (nP R hrefl bT hsel hQ r _ _ _ w h6 hs' h)
    · cases hs
  | .eff i r,s,listed,a,w,hp,hs,h=>by
    simp only[YZ,Bool.and_eq_true,beq_iff_eq]at hp
    obtain⟨⟨_,h1⟩,h2⟩:=hp
    simp only[TC]at hs
    split at hs
    · rename_i o s' hi hs'
      simp only[Option.some.injEq]at hs
      subst hs
      refine⟨fun h0=>(by rw[h1]at h0;cases h0),fun j hj=>?_⟩
      rw[h1]at hj
      obtain rfl:j=i:=by simpa using hj
      refine wpOp_step hi fun K hK=>h K fun a' w' hR hwp=>hK a' w' ⟨.inr hR,?_⟩
      exact Dy (fun x hx=>bT _ _ _ hR hx) _ _ _ _ (nP R hrefl bT hsel hQ r _ _ _ w' h2 hs' hwp)
    · cases hs
  | .last i,s,listed,a,w,hp,hs,h=>by
    simp only[YZ,Bool.and_eq_true,beq_iff_eq,decide_eq_true_eq]at hp
    obtain⟨⟨⟨rfl,h0⟩,h1⟩,h2⟩:=hp
    simp only[TC]at hs
    split at hs
    · rename_i o hi
      simp only[Option.some.injEq]at hs
      subst hs
      refine⟨fun h0=>(by rw[h1]at h0;cases h0),fun j hj=>?_⟩
      rw[h1]at hj
      obtain rfl:j=i:=by simpa using hj
      refine wpOp_step hi fun K hK=>h K fun a' w' hq=>hK a' w' ⟨.inl (by simp[h0]),?_⟩
      exact⟨by simpa using h2,hq⟩
    · cases hs
theorem MV {id:Nat} {a:Act} {w:World} (R:World→World→Prop) (t:PZ) (hm:P.follows .mixedOrders=true) (hrefl:∀w,R w w) (bT:∀a b c,R a b→R b c→R a c) (hQ:∀c a d v w,Q (.panic c) (a.put d v) w→Q (.panic c) a w) (hok:(Region.noSelect ops&&YZ (ops.size-1) ops (Array.replicate ops.size false) t&&t.len==ops.size)=true) (h:∀s,TC ops t=some s→rU P ops Q R s a w.drew) (hl:(TC ops t).isSome=true):(Code.region id ops true).wp P Q a w:=by obtain⟨s,hs⟩:=Option.isSome_iff_exists.1 hl;simp only[Bool.and_eq_true,beq_iff_eq]at hok;refine wp_region_any hm ?_;have h':=nP (z:=ops.size-1) R hrefl bT hok.1.1 (Q:=Q) hQ t s (Array.replicate ops.size false) a w.drew hok.1.2 hs (h s hs);rw[hok.2]at h';exact Fq _ _ _ _ h'
section
variable {R:World→World→Prop} {rest:SZ} {a:Act} {w:World} {oi:Oper}
theorem Ko (v:Value) (hw:Region.wanted oi (yielded ops a.tmps)=true) (hv:∀w',R w w'→(execOp a.eval oi).run P w'=.ok (.value v) w') (h:rU P ops Q R rest (a.put oi.dst v) w):rU P ops Q R (.read oi rest) a w:=by simp only[rU];rw[if_pos hw];exact⟨v,hv,h⟩
theorem abq (v:Value) (hw:Region.wanted oi (yielded ops a.tmps)=true) (hv:∀w',(execOp a.eval oi).run P w'=.ok (.value v) w') (h:rU P ops Q R rest (a.put oi.dst v) w):rU P ops Q R (.pure oi rest) a w:=by simp only[rU];rw[if_pos hw];exact⟨v,hv,h⟩
theorem vV (hw:Region.wanted oi (yielded ops a.tmps)=true) (h:∀K:Act→World→Prop,(∀a' w',R w w'→rU P ops Q R rest a' w'→K a' w')→Oper.wp P oi a w K Q):rU P ops Q R (.eff oi rest) a w:=by simp only[rU];intro K hK;rw[if_pos hw];exact h K hK
theorem PO (hw:Region.wanted oi (yielded ops a.tmps)=true) (h:∀K:Act→World→Prop,(∀a' w',Q .normal a' w'→K a' w')→Oper.wp P oi a w K Q):rU P ops Q R (.last oi) a w:=by simp only[rU];intro K hK;rw[if_pos hw];exact h K hK
end
end
section
variable {P:Program} {ops:Array Oper} {Q:Exit→Act→World→Prop}
theorem zJ {id:Nat} {a:Act} {w:World} {G:Prop} (R:World→World→Prop) [gU R] (p:PZ) (k:G) (e:Hid G→∀l,TC ops p=some l→rU P ops Q R l a w.drew:=by intro h l hl;simp only[TC,bC,Option.some.injEq]at hl;subst hl;exact h.out) (hm:P.follows .mixedOrders=true:=by rfl) (hQ:∀c a d v w,Q (.panic c) (a.put d v) w→Q (.panic c) a w:=by intro c a d v w h;cases d<;>exact h) (hok:(Region.noSelect ops&&YZ (ops.size-1) ops (Array.replicate ops.size false) p&&p.len==ops.size)=true:=by kernel_rfl) (hl:(TC ops p).isSome=true:=by kernel_rfl):(Code.region id ops true).wp P Q a w:=MV R p hm (gU.refl R) (gU.trans R) hQ hok (e (Lib.hid k)) hl
theorem uB {G T:Prop} (k:G) (e:Hid G→T:=by intro h;refine Ko ?_ (by rfl) (fun w' hR=>?_) ?_;rotate_left;(focus go_simp;try with_reducible rfl);simp only[dF];exact h.out):T:=e (Lib.hid k)
theorem zK {R:World→World→Prop} {rest:SZ} {a:Act} {w:World} {oi:Oper} {G:Prop} {X:World→Prop} (F:∀w',R w w'→X w') (k:G) (e:Hid (∀w',R w w'→X w')→Hid G→rU P ops Q R (.read oi rest) a w:=by intro F h;refine Ko ?_ (by rfl) (fun w' hR=>?_) ?_;rotate_left;(focus have z:=F.out w' hR;go_simp;try with_reducible rfl);simp only[dF];exact h.out):rU P ops Q R (.read oi rest) a w:=e (Lib.hid F) (Lib.hid k)
theorem CG {G T:Prop} (k:G) (e:Hid G→T:=by intro h;refine abq ?_ (by rfl) (fun w'=>?_) ?_;rotate_left;(focus go_simp;try with_reducible rfl);simp only[dF];exact h.out):T:=e (Lib.hid k)
theorem iq {T:Prop} {H:(Act→World→Prop)→Prop} {G:∀K,H K→Prop} (k:∀K hK,G K hK) (e:Hid (∀K hK,G K hK)→T:=by intro h;refine vV (by rfl) (fun K hK=>?_);go_simp;exact h.out K hK):T:=e (Lib.hid k)
theorem lU {T:Prop} {H:(Act→World→Prop)→Prop} {G:∀K,H K→Prop} (k:∀K hK,G K hK) (e:Hid (∀K hK,G K hK)→T:=by intro h;refine PO (by rfl) (fun K hK=>?_);go_simp;exact h.out K hK):T:=e (Lib.hid k)
end
def IK (zs:List Nat) (listed:Array Bool):Bool:=zs.any fun z=>listed.getD z false
def Bg (ops:Array Oper) (zs:List Nat) (i:Nat):Bool:=zs.all fun z=>oC ops z i
theorem Bh {i:Nat} (listed:Array Bool):∀{zs:List Nat},zs.contains i=false→IK zs (listed.setIfInBounds i true)=IK zs listed
  |[],_=>rfl
  |z::zs,h=>by
    simp only[List.contains_cons,Bool.or_eq_false_iff,beq_eq_false_iff_ne]at h
    have ih:=Bh (i:=i) listed h.2
    unfold IK at ih⊢
    simp only[List.any_cons]
    rw[ih,getD_set_ne false h.1]
section
variable {P:Program} {ops:Array Oper} {Q:Exit→Act→World→Prop} {zs:List Nat} {S:World→Prop}
def su (P:Program) (zs:List Nat) (ops:Array Oper) (Q:Exit→Act→World→Prop) (S:World→Prop):Nat→Array Bool→Act→World→Prop
  |0,listed,a,w=>Region.ready .any ops listed=[]∧Q .normal a w
  |fuel+1,listed,a,w=>
    (Region.ready .any ops listed=[]→Q .normal a w)∧
    ∀i∈Region.ready .any ops listed,wpOp P ops Q i (fun a' w'=>(IK zs (listed.setIfInBounds i true)=true∨S w')∧su P zs ops Q S fuel (listed.setIfInBounds i true) a' w') a w
theorem Gf:∀(fuel:Nat) (listed:Array Bool) (a:Act) (w:World),su P zs ops Q S fuel listed a w→wpAny P .any ops Q fuel listed a w
  |0,_,_,_,h=>h
  |fuel+1,_,_,_,h=>⟨h.1,fun i hi=>wpOp_mono (fun a' w' h'=>Gf fuel _ a' w' h'.2) (h.2 i hi)⟩
theorem DU {S':World→Prop} (hS:∀w,S' w→S w):∀(fuel:Nat) (listed:Array Bool) (a:Act) (w:World),
    su P zs ops Q S' fuel listed a w→su P zs ops Q S fuel listed a w
  |0,_,_,_,h=>h
  |fuel+1,_,_,_,h=>⟨h.1,fun i hi=>wpOp_mono (fun a' w' h'=>⟨h'.1.imp id (hS _),DU hS fuel _ a' w' h'.2⟩) (h.2 i hi)⟩
theorem RQ {j:Nat} {listed:Array Bool} (hz:zs.contains j=true) (hl:j<listed.size):IK zs (listed.setIfInBounds j true)=true:=by unfold IK;rw[List.any_eq_true];exact⟨j,by simpa using hz,by simp[hl]⟩
theorem NQ {i:Nat} {listed:Array Bool} (h:IK zs listed=true):IK zs (listed.setIfInBounds i true)=true:=by unfold IK at h⊢;rw[List.any_eq_true]at h⊢;obtain⟨z,hz,h⟩:=h;exact⟨z,hz,getD_set_true h⟩
theorem Jq {S':World→Prop}:∀(fuel:Nat) (listed:Array Bool) (a:Act) (w:World),IK zs listed=true→
    su P zs ops Q S' fuel listed a w→su P zs ops Q S fuel listed a w
  |0,_,_,_,_,h=>h
  |fuel+1,_,_,_,hu,h=>⟨h.1,fun i hi=>wpOp_mono (fun a' w' h'=>⟨.inl (NQ hu),Jq fuel _ a' w' (NQ hu) h'.2⟩) (h.2 i hi)⟩
theorem wF {i:Nat} {oi:Oper} {v:Value} (hi:ops[i]? =some oi) (hiz:zs.contains i=false) (hsel:∀(j:Nat) (o:Oper) cs b,ops[j]? =some o→o.op≠ .select cs b) (hQ:∀c a w,Q (.panic c) (a.put oi.dst v) w→Q (.panic c) a w):∀(fuel:Nat) (listed:Array Bool) (a:Act) (w:World),(∀j oj,ops[j]? =some oj→j≠i→listed.getD j true=false→(∀e∈oj.after,Region.binds .any e=true→e.on≠i)→oi.apart ops oj=true)→i∈Region.ready .any ops listed→YieldsIf P ops (fun w=>S w∨Bg ops zs i=false) oi v a→(S w∨Bg ops zs i=false)→(IK zs listed=true→Bg ops zs i=false)→(IK zs listed=true∨S w)→su P zs ops Q S fuel (listed.setIfInBounds i true) (a.put oi.dst v) w→su P zs ops Q S (fuel+1) listed a w:=by
 (have hsame:=fun l=>Bh l hiz);intro fuel
 induction fuel with
 |zero=>intro listed a w _ hr hy hS hzl hS0 H;refine⟨fun h=>(by rw[h]at hr;cases hr),fun j hj=>?_⟩;(by_cases hji:j=i);(·subst hji;exact hy.wpOp hi hS ⟨by rw[hsame];exact hS0,H⟩);(·have:=ready_mono hj hji;rw[H.1]at this;(cases this))
 |succ fuel ih=>
  intro listed a w hfree hr hy hS hzl hS0 H;refine⟨fun h=>(by rw[h]at hr;cases hr),fun j hj=>?_⟩;(by_cases hji:j=i);(·subst hji;exact hy.wpOp hi hS ⟨by rw[hsame];exact hS0,H⟩)
  · have h1:=H.2 j (ready_mono hj hji);obtain⟨hjun,oj,hoj,hall⟩:=mem_ready.1 hj;(have hnot:∀e∈oj.after,Region.binds .any e=true→e.on≠i:=fun e he hb heq=>by have h1:=hall e he hb;have h0:=(mem_ready.1 hr).1;rw[heq]at h1;(rcases Nat.lt_or_ge i listed.size with h'|h');(·simp[h']at h0 h1;rw[h0]at h1;cases h1);(·simp[Array.getElem?_eq_none h']at h1));(have hz:zs.contains j=true→Bg ops zs i=false:=by intro hjz;(have hw:oC ops j i=false:=by unfold oC;rw[hoj];simp only[Option.map_some,Option.getD_some];rw[Array.any_eq_false];intro q hq;simp only[Bool.and_eq_true,beq_iff_eq,not_and];intro hb;exact hnot _ (Array.getElem_mem hq) hb);unfold Bg;rw[List.all_eq_false];exact⟨j,by simpa using hjz,by rw[hw];simp⟩);have h2:=wpOp_putIf hoj (hfree j oj hoj hji hjun hnot) (fun cs b=>hsel i oi cs b hi) (fun cs b=>hsel j oj cs b hoj) hQ hy h1
    have hfree':∀k ok,ops[k]? =some ok→k≠i→(listed.setIfInBounds j true).getD k true=false→
        (∀e∈ok.after,Region.binds .any e=true→e.on≠i)→oi.apart ops ok=true:=fun k ok hk hki hun hno=>by
      refine hfree k ok hk hki ?_ hno
      by_cases hjk:j=k
      · subst hjk;exact hjun
      · rw[getD_set_ne true hjk]at hun;exact hun
    (have WM:IK zs (listed.setIfInBounds j true)=true→Bg ops zs i=false:=fun h=>by cases hjz:zs.contains j with|true=>(exact hz hjz)|false=>(rw[Bh _ hjz]at h;exact hzl h));(have MS:∀w',(IK zs ((listed.setIfInBounds i true).setIfInBounds j true)=true∨S w')→(IK zs (listed.setIfInBounds j true)=true∨S w'):=fun w' h=>by rw[Array.setIfInBounds_comm _ _ (Ne.symm hji),hsame]at h;exact h);refine wpOp_mono (fun a' w' h3=>⟨MS w' h3.2.1,ih (listed.setIfInBounds j true) a' w' hfree' (ready_mono hr (Ne.symm hji)) h3.1 ((MS w' h3.2.1).elim (fun h=>.inr (WM h)) .inl) WM (MS w' h3.2.1) ?_⟩) h2;rw[Array.setIfInBounds_comm _ _ hji];exact h3.2.2
theorem ui {i:Nat} {oi:Oper} {v:Value} {fuel:Nat} {listed:Array Bool} {a:Act} {w:World} (hi:ops[i]? =some oi) (hiz:zs.contains i=false)
    (hs:Region.noSelect ops=true) (hf:Region.free .any ops listed i=true) (hr:(Region.ready .any ops listed).contains i=true) (hl:IK zs listed=false)
    (hQ:∀c a w,Q (.panic c) (a.put oi.dst v) w→Q (.panic c) a w) (hy:YieldsIf P ops (fun w=>S w∨Bg ops zs i=false) oi v a) (hS:S w)
    (h:su P zs ops Q S fuel (listed.setIfInBounds i true) (a.put oi.dst v) w):su P zs ops Q S (fuel+1) listed a w:=
  wF hi hiz (Region.noSelect_spec hs) hQ fuel listed a w (Region.free_spec hi hf) (by simpa using hr) hy (.inl hS) (fun h=>by rw[hl]at h;cases h) (.inr hS) h
end
inductive PY where
  |read (i:Nat) (rest:PY)
  |pure (i:Nat) (rest:PY)
  |eff (i:Nat) (rest:PY)
  |late (i:Nat) (rest:PY)
  |wY (i:Nat) (rest:PY)
  |nil
inductive SY where
  |read (o:Oper) (rest:SY)
  |pure (o:Oper) (rest:SY)
  |eff (o:Oper) (rest:SY)
  |late (o:Oper) (rest:SY)
  |nil
def PY.len:PY→Nat
  | .read _ r=>r.len+1
  | .pure _ r=>r.len+1
  | .eff _ r=>r.len+1
  | .late _ r=>r.len+1
  | .wY _ r=>r.len+1
  | .nil=>0
section
variable {P:Program} {ops:Array Oper} {Q:Exit→Act→World→Prop} {zs:List Nat}
def RS (zs:List Nat) (ops:Array Oper):Array Bool→PY→Bool
  |listed,.read i r=>!zs.contains i&&!IK zs listed&&Bg ops zs i&&Region.free .any ops listed i&&(Region.ready .any ops listed).contains i&&RS zs ops (listed.setIfInBounds i true) r
  |listed,.pure i r=>!zs.contains i&&!IK zs listed&&Region.free .any ops listed i&&(Region.ready .any ops listed).contains i&&RS zs ops (listed.setIfInBounds i true) r
  |listed,.eff i r=>(Region.ready .any ops listed==[i])&&RS zs ops (listed.setIfInBounds i true) r
  |listed,.late i r=>zs.contains i&&decide (i<listed.size)&&(Region.ready .any ops listed==[i])&&RS zs ops (listed.setIfInBounds i true) r
  |listed,.wY i r=>!zs.contains i&&IK zs listed&&!Bg ops zs i&&Region.free .any ops listed i&&(Region.ready .any ops listed).contains i&&RS zs ops (listed.setIfInBounds i true) r
  |listed,.nil=>(Region.ready .any ops listed).isEmpty
def NT (ops:Array Oper):PY→Option SY
  | .read i r=>match ops[i]?,NT ops r with
    |some o,some s=>some (.read o s)
    |_,_=>none
  | .pure i r=>match ops[i]?,NT ops r with
    |some o,some s=>some (.pure o s)
    |_,_=>none
  | .eff i r=>match ops[i]?,NT ops r with
    |some o,some s=>some (.eff o s)
    |_,_=>none
  | .late i r=>match ops[i]?,NT ops r with
    |some o,some s=>some (.late o s)
    |_,_=>none
  | .wY i r=>match ops[i]?,NT ops r with
    |some o,some s=>some (.pure o s)
    |_,_=>none
  | .nil=>some .nil
def pM (P:Program) (ops:Array Oper) (Q:Exit→Act→World→Prop) (R:World→World→Prop):SY→Act→World→Prop
  | .read oi r,a,w=>
      (if Region.wanted oi (yielded ops a.tmps)=true then∃v,(∀w',R w w'→(execOp a.eval oi).run P w'=.ok (.value v) w')∧pM P ops Q R r (a.put oi.dst v) w
       else pM P ops Q R r (a.put oi.dst undef) w)
  | .pure oi r,a,w=>
      (if Region.wanted oi (yielded ops a.tmps)=true then∃v,(∀w',(execOp a.eval oi).run P w'=.ok (.value v) w')∧pM P ops Q R r (a.put oi.dst v) w
       else pM P ops Q R r (a.put oi.dst undef) w)
  | .eff oi r,a,w=>
      ∀K:Act→World→Prop,(∀a' w',R w w'→pM P ops Q R r a' w'→K a' w')→(if Region.wanted oi (yielded ops a.tmps)=true then Oper.wp P oi a w K Q else K (a.put oi.dst undef) w)
  | .late oi r,a,w=>
      ∀K:Act→World→Prop,(∀a' w',pM P ops Q R r a' w'→K a' w')→(if Region.wanted oi (yielded ops a.tmps)=true then Oper.wp P oi a w K Q else K (a.put oi.dst undef) w)
  | .nil,a,w=>Q .normal a w
theorem iV (R:World→World→Prop) (hrefl:∀w,R w w) (bT:∀a b c,R a b→R b c→R a c) (hsel:Region.noSelect ops=true)
    (hQ:∀c a d v w,Q (.panic c) (a.put d v) w→Q (.panic c) a w):
    ∀(t:PY) (s:SY) (listed:Array Bool) (a:Act) (w:World),RS zs ops listed t=true→NT ops t=some s→pM P ops Q R s a w→su P zs ops Q (R w) t.len listed a w
  | .read i r,s,listed,a,w,hp,hs,h=>by
    simp only[RS,Bool.and_eq_true,Bool.not_eq_true']at hp
    obtain⟨⟨⟨⟨⟨h1,h2⟩,h3⟩,h4⟩,h5⟩,h6⟩:=hp
    simp only[NT]at hs
    split at hs
    · rename_i o s' hi hs'
      simp only[Option.some.injEq]at hs
      subst hs
      simp only[pM]at h
      by_cases hw:Region.wanted o (yielded ops a.tmps)=true
      · rw[if_pos hw]at h
        obtain⟨v,hv,h⟩:=h
        exact ui hi h1 hsel h4 h5 h2 (fun c a w h=>hQ c a _ _ w h) (.inl ⟨hw,fun w' hw'=>hw'.elim (hv w') (fun hf=>by rw[h3]at hf;cases hf)⟩) (hrefl w) (iV R hrefl bT hsel hQ r _ _ _ w h6 hs' h)
      · rw[if_neg hw]at h
        exact ui hi h1 hsel h4 h5 h2 (fun c a w h=>hQ c a _ _ w h) (.inr ⟨by simpa using hw,rfl⟩) (hrefl w) (iV R hrefl bT hsel hQ r _ _ _ w h6 hs' h)
    · cases hs
  | .pure i r,s,listed,a,w,hp,hs,h=>by
    simp only[RS,Bool.and_eq_true,Bool.not_eq_true']at hp
    obtain⟨⟨⟨⟨h1,h2⟩,h4⟩,h5⟩,h6⟩:=hp
    simp only[NT]at hs
    split at hs
    · rename_i o s' hi hs'
      simp only[Option.some.injEq]at hs
      subst hs
      simp only[pM]at h
      by_cases hw:Region.wanted o (yielded ops a.tmps)=true
      · rw[if_pos hw]at h
        obtain⟨v,hv,h⟩:=h
        exact ui hi h1 hsel h4 h5 h2 (fun c a w h=>hQ c a _ _ w h) (.inl ⟨hw,fun w' _=>hv w'⟩) (hrefl w) (iV R hrefl bT hsel hQ r _ _ _ w h6 hs' h)
      · rw[if_neg hw]at h
        exact ui hi h1 hsel h4 h5 h2 (fun c a w h=>hQ c a _ _ w h) (.inr ⟨by simpa using hw,rfl⟩) (hrefl w) (iV R hrefl bT hsel hQ r _ _ _ w h6 hs' h)
    · cases hs
  | .eff i r,s,listed,a,w,hp,hs,h=>by
    simp only[RS,Bool.and_eq_true,beq_iff_eq]at hp
    obtain⟨h1,h2⟩:=hp
    simp only[NT]at hs
    split at hs
    · rename_i o s' hi hs'
      simp only[Option.some.injEq]at hs
      subst hs
      refine⟨fun h0=>(by rw[h1]at h0;cases h0),fun j hj=>?_⟩
      rw[h1]at hj
      obtain rfl:j=i:=by simpa using hj
      refine wpOp_step hi fun K hK=>h K fun a' w' hR hwp=>hK a' w' ⟨.inr hR,?_⟩
      exact DU (fun x hx=>bT _ _ _ hR hx) _ _ _ _ (iV R hrefl bT hsel hQ r _ _ _ w' h2 hs' hwp)
    · cases hs
  | .wY i r,s,listed,a,w,hp,hs,h=>by
    simp only[RS,Bool.and_eq_true,Bool.not_eq_true']at hp
    obtain⟨⟨⟨⟨⟨h1,h2⟩,h3⟩,h4⟩,h5⟩,h6⟩:=hp
    simp only[NT]at hs
    split at hs
    · rename_i o s' hi hs'
      simp only[Option.some.injEq]at hs
      subst hs
      simp only[pM]at h
      by_cases hw:Region.wanted o (yielded ops a.tmps)=true
      · rw[if_pos hw]at h
        obtain⟨v,hv,h⟩:=h
        exact wF hi h1 (Region.noSelect_spec hsel) (fun c a w h=>hQ c a _ _ w h) _ listed a w (Region.free_spec hi h4) (by simpa using h5) (.inl ⟨hw,fun w' _=>hv w'⟩) (.inr h3) (fun _=>h3) (.inl h2) (iV R hrefl bT hsel hQ r _ _ _ w h6 hs' h)
      · rw[if_neg hw]at h
        exact wF hi h1 (Region.noSelect_spec hsel) (fun c a w h=>hQ c a _ _ w h) _ listed a w (Region.free_spec hi h4) (by simpa using h5) (.inr ⟨by simpa using hw,rfl⟩) (.inr h3) (fun _=>h3) (.inl h2) (iV R hrefl bT hsel hQ r _ _ _ w h6 hs' h)
    · cases hs
  | .late i r,s,listed,a,w,hp,hs,h=>by
    simp only[RS,Bool.and_eq_true,beq_iff_eq,decide_eq_true_eq]at hp
    obtain⟨⟨⟨hz,h0⟩,h1⟩,h2⟩:=hp
    simp only[NT]at hs
    split at hs
    · rename_i o s' hi hs'
      simp only[Option.some.injEq]at hs
      subst hs
      refine⟨fun h0=>(by rw[h1]at h0;cases h0),fun j hj=>?_⟩
      rw[h1]at hj
      obtain rfl:j=i:=by simpa using hj
      refine wpOp_step hi fun K hK=>h K fun a' w' hwp=>hK a' w' ⟨.inl (RQ hz h0),?_⟩
      exact Jq _ _ _ _ (RQ hz h0) (iV R hrefl bT hsel hQ r _ _ _ w' h2 hs' hwp)
    · cases hs
  | .nil,s,listed,a,w,hp,hs,h=>by
    simp only[NT,Option.some.injEq]at hs
    subst hs
    exact⟨by simpa[RS]using hp,h⟩
theorem NU {id:Nat} {a:Act} {w:World} (R:World→World→Prop) (zs:List Nat) (t:PY) (hm:P.follows .mixedOrders=true) (hrefl:∀w,R w w) (bT:∀a b c,R a b→R b c→R a c) (hQ:∀c a d v w,Q (.panic c) (a.put d v) w→Q (.panic c) a w) (hok:(Region.noSelect ops&&RS zs ops (Array.replicate ops.size false) t&&t.len==ops.size)=true) (h:∀s,NT ops t=some s→pM P ops Q R s a w.drew) (hl:(NT ops t).isSome=true):(Code.region id ops true).wp P Q a w:=by obtain⟨s,hs⟩:=Option.isSome_iff_exists.1 hl;simp only[Bool.and_eq_true,beq_iff_eq]at hok;refine wp_region_any hm ?_;have h':=iV (zs:=zs) R hrefl bT hok.1.1 (Q:=Q) hQ t s (Array.replicate ops.size false) a w.drew hok.1.2 hs (h s hs);rw[hok.2]at h';exact Gf _ _ _ _ h'
section
variable {R:World→World→Prop} {rest:SY} {a:Act} {w:World} {oi:Oper}
theorem RU (v:Value) (hw:Region.wanted oi (yielded ops a.tmps)=true) (hv:∀w',R w w'→(execOp a.eval oi).run P w'=.ok (.value v) w') (h:pM P ops Q R rest (a.put oi.dst v) w):pM P ops Q R (.read oi rest) a w:=by simp only[pM];rw[if_pos hw];exact⟨v,hv,h⟩
theorem abG (v:Value) (hw:Region.wanted oi (yielded ops a.tmps)=true) (hv:∀w',(execOp a.eval oi).run P w'=.ok (.value v) w') (h:pM P ops Q R rest (a.put oi.dst v) w):pM P ops Q R (.pure oi rest) a w:=by simp only[pM];rw[if_pos hw];exact⟨v,hv,h⟩
theorem Xu (hw:Region.wanted oi (yielded ops a.tmps)=true) (h:∀K:Act→World→Prop,(∀a' w',R w w'→pM P ops Q R rest a' w'→K a' w')→Oper.wp P oi a w K Q):pM P ops Q R (.eff oi rest) a w:=by simp only[pM];intro K hK;rw[if_pos hw];exact h K hK
theorem abH (hw:Region.wanted oi (yielded ops a.tmps)=true) (h:∀K:Act→World→Prop,(∀a' w',pM P ops Q R rest a' w'→K a' w')→Oper.wp P oi a w K Q):pM P ops Q R (.late oi rest) a w:=by simp only[pM];intro K hK;rw[if_pos hw];exact h K hK
theorem RV (h:Q .normal a w):pM P ops Q R .nil a w:=h
end
end
section
variable {P:Program} {ops:Array Oper} {Q:Exit→Act→World→Prop}
theorem ZC {id:Nat} {a:Act} {w:World} {G:Prop} (R:World→World→Prop) [gU R] (zs:List Nat) (p:PY) (k:G) (e:Hid G→∀l,NT ops p=some l→pM P ops Q R l a w.drew:=by intro h l hl;simp only[NT,bC,Option.some.injEq]at hl;subst hl;exact h.out) (hm:P.follows .mixedOrders=true:=by rfl) (hQ:∀c a d v w,Q (.panic c) (a.put d v) w→Q (.panic c) a w:=by intro c a d v w h;cases d<;>exact h) (hok:(Region.noSelect ops&&RS zs ops (Array.replicate ops.size false) p&&p.len==ops.size)=true:=by kernel_rfl) (hl:(NT ops p).isSome=true:=by kernel_rfl):(Code.region id ops true).wp P Q a w:=NU R zs p hm (gU.refl R) (gU.trans R) hQ hok (e (Lib.hid k)) hl
theorem ahM {G T:Prop} (k:G) (e:Hid G→T:=by intro h;refine RU ?_ (by rfl) (fun w' hR=>?_) ?_;rotate_left;(focus go_simp;try with_reducible rfl);simp only[dF];exact h.out):T:=e (Lib.hid k)
theorem Gg {R:World→World→Prop} {rest:SY} {a:Act} {w:World} {oi:Oper} {G:Prop} {X:World→Prop} (F:∀w',R w w'→X w') (k:G) (e:Hid (∀w',R w w'→X w')→Hid G→pM P ops Q R (.read oi rest) a w:=by intro F h;refine RU ?_ (by rfl) (fun w' hR=>?_) ?_;rotate_left;(focus have z:=F.out w' hR;go_simp;try with_reducible rfl);simp only[dF];exact h.out):pM P ops Q R (.read oi rest) a w:=e (Lib.hid F) (Lib.hid k)
theorem uT {G T:Prop} (k:G) (e:Hid G→T:=by intro h;refine abG ?_ (by rfl) (fun w'=>?_) ?_;rotate_left;(focus go_simp;try with_reducible rfl);simp only[dF];exact h.out):T:=e (Lib.hid k)
theorem yQ {T:Prop} {H:(Act→World→Prop)→Prop} {G:∀K,H K→Prop} (k:∀K hK,G K hK) (e:Hid (∀K hK,G K hK)→T:=by intro h;refine Xu (by rfl) (fun K hK=>?_);go_simp;exact h.out K hK):T:=e (Lib.hid k)
theorem qW {T:Prop} {H:(Act→World→Prop)→Prop} {G:∀K,H K→Prop} (k:∀K hK,G K hK) (e:Hid (∀K hK,G K hK)→T:=by intro h;refine abH (by rfl) (fun K hK=>?_);go_simp;exact h.out K hK):T:=e (Lib.hid k)
end
inductive PU where
  |nil
  |one (i:Nat) (eff:Bool) (rest:PU)
  |two (i:Nat) (ri:PU) (j:Nat) (rj:PU)
  |three (i:Nat) (ri:PU) (j:Nat) (rj:PU) (k:Nat) (rk:PU)
def PU.len:PU→Nat
  | .nil=>0
  | .one _ _ r=>r.len+1
  | .two _ ri _ _=>ri.len+1
  | .three _ ri _ _ _ _=>ri.len+1
inductive SU where
  |nil
  |one (o:Oper) (eff:Bool) (rest:SU)
  |two (o:Oper) (ri:SU) (o':Oper) (rj:SU)
  |three (o:Oper) (ri:SU) (o':Oper) (rj:SU) (o'':Oper) (rk:SU)
section
variable {P:Program} {ops:Array Oper} {Q:Exit→Act→World→Prop}
def Qj (ops:Array Oper):Array Bool→PU→Bool
  |listed,.nil=>(Region.ready .any ops listed).isEmpty
  |listed,.one i false r=>Region.free .any ops listed i&&(Region.ready .any ops listed).contains i&&Qj ops (listed.setIfInBounds i true) r
  |listed,.one i true r=>(Region.ready .any ops listed==[i])&&Qj ops (listed.setIfInBounds i true) r
  |listed,.two i ri j rj=>(Region.ready .any ops listed==[i,j])&&Qj ops (listed.setIfInBounds i true) ri&&Qj ops (listed.setIfInBounds j true) rj&&(ri.len==rj.len)
  |listed,.three i ri j rj k rk=>(Region.ready .any ops listed==[i,j,k])&&Qj ops (listed.setIfInBounds i true) ri&&Qj ops (listed.setIfInBounds j true) rj&&Qj ops (listed.setIfInBounds k true) rk&&(ri.len==rj.len)&&(ri.len==rk.len)
def Ot (ops:Array Oper):PU→Option SU
  | .nil=>some .nil
  | .one i b r=>match ops[i]?,Ot ops r with
    |some o,some s=>some (.one o b s)
    |_,_=>none
  | .two i ri j rj=>match ops[i]?,Ot ops ri,ops[j]?,Ot ops rj with
    |some o,some s,some o',some s'=>some (.two o s o' s')
    |_,_,_,_=>none
  | .three i ri j rj k rk=>match ops[i]?,Ot ops ri,ops[j]?,Ot ops rj,ops[k]?,Ot ops rk with
    |some o,some s,some o',some s',some o'',some s''=>some (.three o s o' s' o'' s'')
    |_,_,_,_,_,_=>none
def nZ (P:Program) (ops:Array Oper) (Q:Exit→Act→World→Prop) (R:World→World→Prop):SU→Act→World→Prop
  | .nil,a,w=>Q .normal a w
  | .one oi false r,a,w=>
      (if Region.wanted oi (yielded ops a.tmps)=true then∃v,(∀w',R w w'→(execOp a.eval oi).run P w'=.ok (.value v) w')∧nZ P ops Q R r (a.put oi.dst v) w
       else nZ P ops Q R r (a.put oi.dst undef) w)
  | .one oi true r,a,w=>
      ∀K:Act→World→Prop,(∀a' w',R w w'→nZ P ops Q R r a' w'→K a' w')→(if Region.wanted oi (yielded ops a.tmps)=true then Oper.wp P oi a w K Q else K (a.put oi.dst undef) w)
  | .two oi ri oj rj,a,w=>
      (∀K:Act→World→Prop,(∀a' w',R w w'→nZ P ops Q R ri a' w'→K a' w')→(if Region.wanted oi (yielded ops a.tmps)=true then Oper.wp P oi a w K Q else K (a.put oi.dst undef) w))∧
      (∀K:Act→World→Prop,(∀a' w',R w w'→nZ P ops Q R rj a' w'→K a' w')→(if Region.wanted oj (yielded ops a.tmps)=true then Oper.wp P oj a w K Q else K (a.put oj.dst undef) w))
  | .three oi ri oj rj ok rk,a,w=>
      (∀K:Act→World→Prop,(∀a' w',R w w'→nZ P ops Q R ri a' w'→K a' w')→(if Region.wanted oi (yielded ops a.tmps)=true then Oper.wp P oi a w K Q else K (a.put oi.dst undef) w))∧
      (∀K:Act→World→Prop,(∀a' w',R w w'→nZ P ops Q R rj a' w'→K a' w')→(if Region.wanted oj (yielded ops a.tmps)=true then Oper.wp P oj a w K Q else K (a.put oj.dst undef) w))∧
      (∀K:Act→World→Prop,(∀a' w',R w w'→nZ P ops Q R rk a' w'→K a' w')→(if Region.wanted ok (yielded ops a.tmps)=true then Oper.wp P ok a w K Q else K (a.put ok.dst undef) w))
theorem oJ (R:World→World→Prop) (hrefl:∀w,R w w) (bT:∀a b c,R a b→R b c→R a c) (hsel:Region.noSelect ops=true)
    (hQ:∀c a d v w,Q (.panic c) (a.put d v) w→Q (.panic c) a w):
    ∀(t:PU) (s:SU) (listed:Array Bool) (a:Act) (w:World),Qj ops listed t=true→Ot ops t=some s→nZ P ops Q R s a w→wpAnyH P .any ops Q (R w) t.len listed a w
  | .nil,s,listed,a,w,hp,hs,h=>by
    simp only[Ot,Option.some.injEq]at hs
    subst hs
    exact wpAnyH_done (by simpa[Qj]using hp) h _
  | .one i false r,s,listed,a,w,hp,hs,h=>by
    simp only[Qj,Bool.and_eq_true]at hp
    simp only[Ot]at hs
    split at hs
    · rename_i o s' hi hs'
      simp only[Option.some.injEq]at hs
      subst hs
      simp only[nZ]at h
      by_cases hw:Region.wanted o (yielded ops a.tmps)=true
      · rw[if_pos hw]at h
        obtain⟨v,hv,h⟩:=h
        exact wpAnyH_take hi hsel hp.1.1 hp.1.2 (fun c a w h=>hQ c a _ _ w h) (.inl ⟨hw,hv⟩) (hrefl w) (oJ R hrefl bT hsel hQ r _ _ _ w hp.2 hs' h)
      · rw[if_neg hw]at h
        exact wpAnyH_take hi hsel hp.1.1 hp.1.2 (fun c a w h=>hQ c a _ _ w h) (.inr ⟨by simpa using hw,rfl⟩) (hrefl w) (oJ R hrefl bT hsel hQ r _ _ _ w hp.2 hs' h)
    · cases hs
  | .one i true r,s,listed,a,w,hp,hs,h=>by
    simp only[Qj,Bool.and_eq_true,beq_iff_eq]at hp
    simp only[Ot]at hs
    split at hs
    · rename_i o s' hi hs'
      simp only[Option.some.injEq]at hs
      subst hs
      refine wpAnyH_all hp.1 (by simp) ?_
      intro j hj
      obtain rfl:j=i:=by simpa using hj
      refine wpOp_step hi fun K hK=>h K fun a' w' hR hwp=>hK a' w' ⟨hR,?_⟩
      exact gX (fun x hx=>bT _ _ _ hR hx) _ _ _ _ (oJ R hrefl bT hsel hQ r _ _ _ w' hp.2 hs' hwp)
    · cases hs
  | .two i ri j rj,s,listed,a,w,hp,hs,h=>by
    simp only[Qj,Bool.and_eq_true,beq_iff_eq]at hp
    obtain⟨⟨⟨hr,h1⟩,h2⟩,hlen⟩:=hp
    simp only[Ot]at hs
    split at hs
    · rename_i o s1 o' s2 hi hs1 hj hs2
      simp only[Option.some.injEq]at hs
      subst hs
      refine wpAnyH_all hr (by simp) ?_
      intro q hq
      simp only[List.mem_cons,List.not_mem_nil,or_false]at hq
      rcases hq with rfl|rfl
      · refine wpOp_step hi fun K hK=>h.1 K fun a' w' hR hwp=>hK a' w' ⟨hR,?_⟩
        exact gX (fun x hx=>bT _ _ _ hR hx) _ _ _ _ (oJ R hrefl bT hsel hQ ri _ _ _ w' h1 hs1 hwp)
      · refine wpOp_step hj fun K hK=>h.2 K fun a' w' hR hwp=>hK a' w' ⟨hR,?_⟩
        rw[hlen]
        exact gX (fun x hx=>bT _ _ _ hR hx) _ _ _ _ (oJ R hrefl bT hsel hQ rj _ _ _ w' h2 hs2 hwp)
    · cases hs
  | .three i ri j rj k rk,s,listed,a,w,hp,hs,h=>by
    simp only[Qj,Bool.and_eq_true,beq_iff_eq]at hp
    obtain⟨⟨⟨⟨⟨hr,h1⟩,h2⟩,h3⟩,hlen⟩,hlen2⟩:=hp
    simp only[Ot]at hs
    split at hs
    · rename_i o s1 o' s2 o'' s3 hi hs1 hj hs2 hk hs3
      simp only[Option.some.injEq]at hs
      subst hs
      refine wpAnyH_all hr (by simp) ?_
      intro q hq
      simp only[List.mem_cons,List.not_mem_nil,or_false]at hq
      rcases hq with rfl|rfl|rfl
      · refine wpOp_step hi fun K hK=>h.1 K fun a' w' hR hwp=>hK a' w' ⟨hR,?_⟩
        exact gX (fun x hx=>bT _ _ _ hR hx) _ _ _ _ (oJ R hrefl bT hsel hQ ri _ _ _ w' h1 hs1 hwp)
      · refine wpOp_step hj fun K hK=>h.2.1 K fun a' w' hR hwp=>hK a' w' ⟨hR,?_⟩
        rw[hlen]
        exact gX (fun x hx=>bT _ _ _ hR hx) _ _ _ _ (oJ R hrefl bT hsel hQ rj _ _ _ w' h2 hs2 hwp)
      · refine wpOp_step hk fun K hK=>h.2.2 K fun a' w' hR hwp=>hK a' w' ⟨hR,?_⟩
        rw[hlen2]
        exact gX (fun x hx=>bT _ _ _ hR hx) _ _ _ _ (oJ R hrefl bT hsel hQ rk _ _ _ w' h3 hs3 hwp)
    · cases hs
theorem Ou {id:Nat} {a:Act} {w:World} (R:World→World→Prop) (t:PU) (hm:P.follows .mixedOrders=true) (hrefl:∀w,R w w) (bT:∀a b c,R a b→R b c→R a c) (hQ:∀c a d v w,Q (.panic c) (a.put d v) w→Q (.panic c) a w) (hok:(Region.noSelect ops&&Qj ops (Array.replicate ops.size false) t&&t.len==ops.size)=true) (h:∀s,Ot ops t=some s→nZ P ops Q R s a w.drew) (hl:(Ot ops t).isSome=true):(Code.region id ops true).wp P Q a w:=by obtain⟨s,hs⟩:=Option.isSome_iff_exists.1 hl;simp only[Bool.and_eq_true,beq_iff_eq]at hok;refine wp_region_held (S:=R w.drew) hm ?_;have h':=oJ R hrefl bT hok.1.1 (Q:=Q) hQ t s (Array.replicate ops.size false) a w.drew hok.1.2 hs (h s hs);rw[hok.2]at h';exact h'
section
variable {R:World→World→Prop} {rest ri rj:SU} {a:Act} {w:World} {oi oj:Oper}
theorem Sm (v:Value) (hw:Region.wanted oi (yielded ops a.tmps)=true) (hv:∀w',R w w'→(execOp a.eval oi).run P w'=.ok (.value v) w') (h:nZ P ops Q R rest (a.put oi.dst v) w):nZ P ops Q R (.one oi false rest) a w:=by simp only[nZ];rw[if_pos hw];exact⟨v,hv,h⟩
theorem abJ (hw:Region.wanted oi (yielded ops a.tmps)=true) (h:∀K:Act→World→Prop,(∀a' w',R w w'→nZ P ops Q R rest a' w'→K a' w')→Oper.wp P oi a w K Q):nZ P ops Q R (.one oi true rest) a w:=by simp only[nZ];intro K hK;rw[if_pos hw];exact h K hK
theorem uX (hwi:Region.wanted oi (yielded ops a.tmps)=true) (hwj:Region.wanted oj (yielded ops a.tmps)=true) (hi:∀K:Act→World→Prop,(∀a' w',R w w'→nZ P ops Q R ri a' w'→K a' w')→Oper.wp P oi a w K Q) (hj:∀K:Act→World→Prop,(∀a' w',R w w'→nZ P ops Q R rj a' w'→K a' w')→Oper.wp P oj a w K Q):nZ P ops Q R (.two oi ri oj rj) a w:=by simp only[nZ];refine⟨fun K hK=>?_,fun K hK=>?_⟩;(·rw[if_pos hwi];exact hi K hK);(·rw[if_pos hwj];exact hj K hK)
theorem KY {ok:Oper} {rk:SU} (hwi:Region.wanted oi (yielded ops a.tmps)=true) (hwj:Region.wanted oj (yielded ops a.tmps)=true) (hwk:Region.wanted ok (yielded ops a.tmps)=true) (hi:∀K:Act→World→Prop,(∀a' w',R w w'→nZ P ops Q R ri a' w'→K a' w')→Oper.wp P oi a w K Q) (hj:∀K:Act→World→Prop,(∀a' w',R w w'→nZ P ops Q R rj a' w'→K a' w')→Oper.wp P oj a w K Q) (hk:∀K:Act→World→Prop,(∀a' w',R w w'→nZ P ops Q R rk a' w'→K a' w')→Oper.wp P ok a w K Q):nZ P ops Q R (.three oi ri oj rj ok rk) a w:=by simp only[nZ];refine⟨fun K hK=>?_,fun K hK=>?_,fun K hK=>?_⟩;(·rw[if_pos hwi];exact hi K hK);(·rw[if_pos hwj];exact hj K hK);(·rw[if_pos hwk];exact hk K hK)
theorem nU (h:Q .normal a w):nZ P ops Q R .nil a w:=h
end
end
section
variable {P:Program} {ops:Array Oper} {Q:Exit→Act→World→Prop}
theorem ai6 {id:Nat} {a:Act} {w:World} {G:Prop} (R:World→World→Prop) [gU R] (p:PU) (k:G) (e:Hid G→∀l,Ot ops p=some l→nZ P ops Q R l a w.drew:=by intro h l hl;simp only[Ot,bC,Option.some.injEq]at hl;subst hl;exact h.out) (hm:P.follows .mixedOrders=true:=by rfl) (hQ:∀c a d v w,Q (.panic c) (a.put d v) w→Q (.panic c) a w:=by intro c a d v w h;cases d<;>exact h) (hok:(Region.noSelect ops&&Qj ops (Array.replicate ops.size false) p&&p.len==ops.size)=true:=by kernel_rfl) (hl:(Ot ops p).isSome=true:=by kernel_rfl):(Code.region id ops true).wp P Q a w:=Ou R p hm (gU.refl R) (gU.trans R) hQ hok (e (Lib.hid k)) hl
theorem jH {G T:Prop} (k:G) (e:Hid G→T:=by intro h;refine Sm ?_ (by rfl) (fun w' hR=>?_) ?_;rotate_left;(focus go_simp;try with_reducible rfl);simp only[dF];exact h.out):T:=e (Lib.hid k)
theorem ai7 {R:World→World→Prop} {rest:SU} {a:Act} {w:World} {oi:Oper} {G:Prop} {X:World→Prop} (F:∀w',R w w'→X w') (k:G) (e:Hid (∀w',R w w'→X w')→Hid G→nZ P ops Q R (.one oi false rest) a w:=by intro F h;refine Sm ?_ (by rfl) (fun w' hR=>?_) ?_;rotate_left;(focus have z:=F.out w' hR;go_simp;try with_reducible rfl);simp only[dF];exact h.out):nZ P ops Q R (.one oi false rest) a w:=e (Lib.hid F) (Lib.hid k)
theorem bI {T:Prop} {H:(Act→World→Prop)→Prop} {G:∀K,H K→Prop} (k:∀K hK,G K hK) (e:Hid (∀K hK,G K hK)→T:=by intro h;refine abJ (by rfl) (fun K hK=>?_);go_simp;exact h.out K hK):T:=e (Lib.hid k)
end
end Go.Proofs.YthcbjeeajoliiaaGreatDoor
