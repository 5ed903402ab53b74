/- Lemmas for ScriptRuns. -/
import Derived.Test.YthcbjeeajoliiaaGreatDoorM37
set_option maxRecDepth 100000
set_option maxHeartbeats 4000000
set_option linter.unusedVariables false
set_option linter.unusedSimpArgs false
namespace Go.Proofs.YthcbjeeajoliiaaGreatDoor
open Cr (Str jk gQ bK fH BX rG iJ aW aJ aG jw)
structure ig (r:bK):Prop where
  st:0≤r.status∧r.status≤1000
  few:r.fields.length≤100
  names:∀f∈r.fields,f.name.length≤1000000∧f.value.length≤1000000
  uV:(Cr.dQ r.fields).length≤16000
  body:r.body.length≤2000
theorem ig.enc {r:bK} (h:ig r):(Cr.qf r).length≤19000:=by obtain⟨⟨a,b⟩,_,_,c,d⟩:=h;have h1:=fK (n:=r.status) (by omega) (by omega);have h2:=jA r.status;have h3:=fK (n:=(r.body.length:Int)) (by omega) (by omega);(have h4:(if r.close then Cr.rX else []).length≤19:=by split<;>decide);have h5:Cr.AZ.length=9:=rfl;have h6:Cr.uS.length=16:=rfl;unfold Cr.qf;simp only[List.length_append,List.length_cons];omega
theorem ig.plain {st:Int} {cl:Bool} (h0:0≤st) (h1:st≤1000):ig (Cr.aH st cl):=
  ⟨⟨h0,h1⟩,by simp[Cr.aH],by simp[Cr.aH],by simp[Cr.aH,Cr.dQ],by have:=jA st;simp[Cr.aH];omega⟩
theorem ig.nil:ig Cr.bK.nil:=⟨by simp[Cr.bK.nil],by simp[Cr.bK.nil],by simp[Cr.bK.nil],by simp[Cr.bK.nil,Cr.dQ],by simp[Cr.bK.nil]⟩
structure GX (n:Nat) (s:iJ):Prop where
  Aq:0≤s.version∧s.version≤n+1
  found:∀path,∀e∈Cr.gy path s.root,∀r∈e,r∈s.routes
  few:s.routes.length≤24
  small:∀r∈s.routes,r.method.length≤600∧(Cr.pattern r.pattern).1.length≤8
theorem GX.mono {n m:Nat} {s:iJ} (h:GX n s) (hm:n≤m):GX m s:=⟨⟨h.Aq.1,by have:=h.Aq.2;omega⟩,h.found,h.few,h.small⟩
theorem Vz {r:fH} (h:Cr.dU r=true):(Cr.pattern r.pattern).1.length≤8:=by(have h1:(Cr.pattern r.pattern).2=true:=by unfold Cr.dU at h;simp only[Bool.and_eq_true]at h;exact h.1.1);revert h1;unfold Cr.pattern;simp only;(repeat' split);(all_goals simp)
theorem GX.set {n:Nat} {s:iJ} (h:0≤s.version∧s.version≤n) (l:List fH) (hl:∀r∈l,r.method.length≤600):GX n (s.set l):=by refine⟨?_,fun path e he r hr=>(FX s l path e he r hr).1,?_,?_⟩;(·unfold iJ.set;simp only;omega);(·unfold iJ.set;simp only;split;(·simp);(·rename_i h;exact(qo (by simpa using h)).2));(·unfold iJ.set;simp only;split;(·simp);(·rename_i h;(exact fun r hr=>⟨hl r hr,Vz ((qo (by simpa using h)).1 r hr)⟩)))
structure mO (n:Nat) (c:aW):Prop where
  req:eG c.req
  conn:0≤c.conn∧c.conn≤n
  seq:0≤c.seq∧c.seq≤n+8
  Aq:0≤c.version∧c.version≤n+1
  zV:c.eH.params.length≤8∧∀p∈c.eH.params,p.value.length≤2000
  Gl:c.eH.allow.length≤24∧∀x∈c.eH.allow,x.length≤600
theorem mO.nil (n:Nat):mO n aW.nil:=⟨eG.nil,by simp[aW.nil],by simp[aW.nil];omega,by simp[aW.nil];omega,by simp[aW.nil],by simp[aW.nil]⟩
theorem mO.mono {n m:Nat} {c:aW} (h:mO n c) (hm:n≤m):mO m c:=⟨h.req,by have:=h.conn;omega,by have:=h.seq;omega,by have:=h.Aq;omega,h.zV,h.Gl⟩
theorem mO.fits {n:Nat} {c:aW} (h:mO n c):gZ c:=⟨h.req,⟨by have:=h.zV.1;omega,fun p hp=>by have:=h.zV.2 p hp;omega⟩,⟨by have:=h.Gl.1;omega,fun p hp=>by have:=h.Gl.2 p hp;omega⟩⟩
theorem mO.nums {n:Nat} {c:aW} (h:mO n c) (hn:n≤50000):BI c:=by have:=h.conn;have:=h.seq;have:=h.Aq;unfold BI;omega
theorem yx (N:Nat):∀(l:List Str),(∀x∈l,x.length≤N)→(Cr.dO l).length≤l.length*(N+1)
  |[],_=>by simp[Cr.dO]
  |[x],h=>by have:=h x (by simp);simp only[Cr.dO,List.length_singleton];omega
  |x::y::l,h=>by
    have h1:=h x (by simp)
    have h2:=yx N (y::l) (fun z hz=>h z (List.mem_cons_of_mem _ hz))
    show(x++47::Cr.dO (y::l)).length≤_
    rw[List.length_append,List.length_cons]
    rw[show(x::y::l).length=(y::l).length+1 from rfl,Nat.add_mul]
    omega
theorem Ec (l:List Str) (hl:l.length≤8) (hs:∀x∈l,x.length≤200):∀(p:List Str) (i:Nat),∀q∈Cr.gB l i p,q.value.length≤2000
  |[],i,q,hq=>by simp[Cr.gB]at hq
  |s::p,i,q,hq=>by
    unfold Cr.gB at hq
    rcases List.mem_append.1 hq with h|h
    · split at h
      · obtain rfl:=List.mem_singleton.1 h
        rw[List.getD_eq_getElem?_getD]
        cases hx:l[i]? with
        |none=>simp
        |some x=>have:=hs x (List.mem_of_getElem? hx);simp;omega
      · split at h
        · obtain rfl:=List.mem_singleton.1 h
          have h1:=yx 200 (l.drop i) (fun x hx=>hs x (List.mem_of_mem_drop hx))
          have h2:(l.drop i).length≤8:=by rw[List.length_drop];omega
          show(Cr.qm l i).length≤2000
          unfold Cr.qm
          have:=Nat.mul_le_mul_right (200+1) h2
          omega
        · cases h
    · exact Ec l hl hs p (i+1) q h
theorem JG (method:Str) (Ms:List Str):∀(e:List fH) (al:List Str),(∀r∈e,r.method∈Ms)→al.Nodup→(∀x∈al,x∈Ms)→(∀r,Cr.jb method al e=.inl r→r∈e)∧∀al',Cr.jb method al e=.inr al'→al'.Nodup∧∀x∈al',x∈Ms
  |[],al,_,h1,h2=>⟨fun r h=>by simp[Cr.jb]at h,fun al' h=>by simp only[Cr.jb,Sum.inr.injEq]at h;subst h;exact⟨h1,h2⟩⟩
  |r::rs,al,h0,h1,h2=>by
    unfold Cr.jb
    split
    · exact⟨fun q h=>by simp only[Sum.inl.injEq]at h;subst h;simp,fun al' h=>by simp at h⟩
    · have hal:(if al.contains r.method then al else al++[r.method]).Nodup∧∀x∈(if al.contains r.method then al else al++[r.method]),x∈Ms:=by
        split
        · exact⟨h1,h2⟩
        · rename_i hc
          refine⟨List.nodup_append.2 ⟨h1,by simp,fun a ha b hb=>?_⟩,fun x hx=>?_⟩
          · obtain rfl:=List.mem_singleton.1 hb
            rintro rfl
            exact hc (by simpa using ha)
          · rcases List.mem_append.1 hx with hx|hx
            · exact h2 x hx
            · obtain rfl:=List.mem_singleton.1 hx
              exact h0 r (by simp)
      obtain⟨k1,k2⟩:=JG method Ms rs _ (fun q hq=>h0 q (List.mem_cons_of_mem _ hq)) hal.1 hal.2
      exact⟨fun q hq=>List.mem_cons_of_mem _ (k1 q hq),k2⟩
theorem GY (method:Str) (Ms:List Str):∀(es:List (List fH)) (al:List Str),(∀e∈es,∀r∈e,r.method∈Ms)→al.Nodup→(∀x∈al,x∈Ms)→(∀r,Cr.nG method al es=.inl r→∃e∈es,r∈e)∧∀al',Cr.nG method al es=.inr al'→al'.Nodup∧∀x∈al',x∈Ms
  |[],al,_,h1,h2=>⟨fun r h=>by simp[Cr.nG]at h,fun al' h=>by simp only[Cr.nG,Sum.inr.injEq]at h;subst h;exact⟨h1,h2⟩⟩
  |e::es,al,h0,h1,h2=>by
    obtain⟨k1,k2⟩:=JG method Ms e al (h0 e (by simp)) h1 h2
    unfold Cr.nG
    cases hp:Cr.jb method al e with
    |inl r=>exact⟨fun q h=>by simp only[Sum.inl.injEq]at h;subst h;exact⟨e,by simp,k1 _ hp⟩,fun al' h=>by simp at h⟩
    |inr al1=>
      obtain⟨k3,k4⟩:=k2 _ hp
      obtain⟨k5,k6⟩:=GY method Ms es al1 (fun x hx=>h0 x (List.mem_cons_of_mem _ hx)) k3 k4
      refine⟨fun q h=>?_,k6⟩
      obtain⟨x,hx,hq⟩:=k5 q h
      exact⟨x,List.mem_cons_of_mem _ hx,hq⟩
theorem GZ {n:Nat} {W:aJ} {r:gQ} {conn seq:Int} (hT:GX n W.table) (hr:eG r) (hc:0≤conn∧conn≤n) (hs:0≤seq∧seq≤n+8):mO n (W.route r conn seq):=by unfold aJ.route;(cases hsp:Cr.split r.target with|none=>(exact⟨hr,hc,hs,hT.Aq,by simp,by simp⟩)|some l=>(simp only;obtain⟨l1,l2⟩:=Jv hsp;(have l3:=fun x hx=>Nat.le_trans (l2 x hx) hr.target);obtain⟨k1,k2⟩:=GY r.method (W.table.routes.map (·.method)) (Cr.gy l W.table.root) [] (fun e he q hq=>List.mem_map.2 ⟨q,hT.found l e he q hq,rfl⟩) (by simp) (by simp);(have hm:((Cr.dY W.table.root r.method l).1.params.length≤8∧∀p∈(Cr.dY W.table.root r.method l).1.params,p.value.length≤2000)∧((Cr.dY W.table.root r.method l).1.allow.length≤24∧∀x∈(Cr.dY W.table.root r.method l).1.allow,x.length≤600):=by unfold Cr.dY;(cases hp:Cr.nG r.method [] (Cr.gy l W.table.root)with|inl q=>(obtain⟨e,he,hq⟩:=k1 _ hp;have hsm:=hT.small q (hT.found l e he q hq);refine⟨⟨Nat.le_trans (vZ l _ 0) hsm.2,Ec l l1 l3 _ 0⟩,by simp,by simp⟩)|inr al=>(obtain⟨k3,k4⟩:=k2 _ hp;refine⟨⟨by simp,by simp⟩,?_,fun x hx=>?_⟩;(·simp only[jB];have:=qg al _ k3 k4;rw[List.length_map]at this;exact Nat.le_trans this hT.few);(·obtain⟨q,hq,rfl⟩:=List.mem_map.1 (k4 x ((iU al).mem_iff.1 hx));exact(hT.small q hq).1))));exact⟨hr,hc,hs,hT.Aq,hm.1,hm.2⟩))
structure tu (S:aG):Prop where
  len:S.sh.length=4
  few:∀x∈S.sh,x.vals.length≤8
  vals:∀x∈S.sh,∀p∈x.vals,p.1.length≤40∧p.2.length≤600
theorem tu.at_mem {S:aG} (h:tu S) {k:Nat} (hk:k<4):S.at k∈S.sh:=by unfold aG.at;rw[List.getD_eq_getElem?_getD];(have:k<S.sh.length:=by rw[h.len];exact hk);rw[List.getElem?_eq_getElem this];simp
theorem tu.fits {S:aG} (h:tu S):qX S:=⟨fun k hk p hp=>by have:=h.vals _ (h.at_mem hk) p hp;omega,fun k hk=>h.few _ (h.at_mem hk)⟩
theorem tu.put {S:aG} (h:tu S) (k:Nat) (x:jw) (h1:x.vals.length≤8) (h2:∀p∈x.vals,p.1.length≤40∧p.2.length≤600):tu (S.put k x):=by unfold aG.put;refine⟨by simpa using h.len,fun y hy=>?_,fun y hy=>?_⟩;(·(rcases List.mem_or_eq_of_mem_set hy with hy|rfl);(·exact h.few y hy);(·exact h1));(·(rcases List.mem_or_eq_of_mem_set hy with hy|rfl);(·exact h.vals y hy);(·exact h2))
theorem Yk (S:aG) (k j:Nat) (x:jw) (hk:k<S.sh.length):(S.put k x).at j=if j=k then x else S.at j:=by unfold aG.put aG.at;rw[List.getD_eq_getElem?_getD,List.getD_eq_getElem?_getD];(by_cases hj:j=k);(·subst hj;rw[if_pos rfl,List.getElem?_set_self hk];rfl);(·rw[if_neg hj,List.getElem?_set_ne (Ne.symm hj)])
theorem JH (S:aG) (k j:Nat) (l:List (Str×Str)) (hk:k<S.sh.length):((S.put k {S.at k with vals:=l}).at j).owner=(S.at j).owner:=by rw[Yk _ _ _ _ hk];split;(·rename_i h;subst h;rfl);(·rfl)
theorem tu.new:tu aG.new:=⟨rfl,by simp[aG.new],by simp[aG.new]⟩
theorem BO (key value:Str):∀(l:List (Str×Str)),∀p∈Cr.iC key value l,p=(key,value)∨p∈l
  |[],p,h=>.inl (List.mem_singleton.1 h)
  |(k,v)::l,p,h=>by
    unfold Cr.iC at h
    split at h
    · rcases List.mem_cons.1 h with h|h
      · exact .inl h
      · exact .inr (List.mem_cons_of_mem _ h)
    · rcases List.mem_cons.1 h with h|h
      · exact .inr (by rw[h];simp)
      · rcases BO key value l p h with h|h
        · exact .inl h
        · exact .inr (List.mem_cons_of_mem _ h)
theorem BP (key value:Str):∀(l:List (Str×Str)),(Cr.iC key value l).length=l.length+if(Cr.lookup key l).isNone then 1 else 0
  |[]=>rfl
  |(k,v)::l=>by
    unfold Cr.iC Cr.lookup
    split
    · simp
    · rw[List.length_cons,BP key value l,List.length_cons]
      omega
theorem VB {S:aG} {owner:Int} {key:Str} (h:S.mine owner key=0):key.length≤40:=by unfold aG.mine at h;split at h;(·cases h);(·rename_i hr;unfold Cr.rW at hr;simp only[Bool.not_eq_true,Bool.not_eq_false',Bool.and_eq_true,decide_eq_true_eq]at hr;exact hr.2)
theorem Yl {S:aG} (h:tu S) (owner:Int) (key value tag:Str) (hv:value.length≤600):tu (S.mW owner key value tag).1∧∀k,((S.mW owner key value tag).1.at k).owner=(S.at k).owner:=by unfold aG.mW;simp only;split;(·exact⟨h,fun _=>rfl⟩);(·rename_i hm;have hkey:=VB (by simpa using hm);split;(·exact⟨h,fun _=>rfl⟩);(·split;(·exact⟨h,fun _=>rfl⟩);(·rename_i h8;have hx:=h.at_mem (gI key);refine⟨h.put _ _ ?_ ?_,fun k=>JH S _ k _ (by rw[h.len];exact gI key)⟩;(·rw[BP];have:=h.few _ hx;(by_cases hn:(Cr.lookup key (S.at (Cr.bM key)).vals).isNone=true);(·rw[if_pos hn];(have:¬(S.at (Cr.bM key)).vals.length=8:=fun h=>h8 ⟨hn,h⟩);omega);(·rw[if_neg hn];exact this));(·intro p hp;(rcases BO _ _ _ p hp with rfl|hp);(·exact⟨hkey,hv⟩);(·exact h.vals _ hx p hp)))))
theorem VC {S:aG} (h:tu S) (owner:Int) (key tag:Str):tu (S.delete owner key tag).1∧∀k,((S.delete owner key tag).1.at k).owner=(S.at k).owner:=by unfold aG.delete;simp only;have hx:=h.at_mem (gI key);split;(·exact⟨h,fun _=>rfl⟩);(·split;(·exact⟨h,fun _=>rfl⟩);(·split;(·exact⟨h,fun _=>rfl⟩);(·exact⟨h.put _ _ (Nat.le_trans (List.length_filter_le _ _) (h.few _ hx)) (fun p hp=>h.vals _ hx p (List.mem_filter.1 hp).1),fun k=>JH S _ k _ (by rw[h.len];exact gI key)⟩)))
theorem acs {S:aG} (h:tu S) (owner:Int) (key:Str):(S.get owner key).1.length≤600:=by unfold aG.get;simp only;split;(·simp);(·split;(·simp);(·rename_i v hv;exact(h.vals _ (h.at_mem (gI key)) _ (sG _ _ _ hv)).2))
theorem uJ (sep:Str) (N:Nat):∀(l:List Str),(∀x∈l,x.length≤N)→(Cr.dW sep l).length≤l.length*(N+sep.length)
  |[],_=>by simp[Cr.dW]
  |[x],h=>by have:=h x (by simp);simp only[Cr.dW,List.length_singleton];omega
  |x::y::l,h=>by
    have h1:=h x (by simp)
    have h2:=uJ sep N (y::l) (fun z hz=>h z (List.mem_cons_of_mem _ hz))
    show(x++(sep++Cr.dW sep (y::l))).length≤_
    rw[List.length_append,List.length_append]
    rw[show(x::y::l).length=(y::l).length+1 from rfl,Nat.add_mul]
    omega
theorem O0:∀(l:List jw),(∀x∈l,x.vals.length≤8)→(l.flatMap fun x=>x.vals.map (·.1)).length≤l.length*8
  |[],_=>by simp
  |x::l,h=>by
    have h1:=h x (by simp)
    have h2:=O0 l (fun y hy=>h y (List.mem_cons_of_mem _ hy))
    rw[List.flatMap_cons,List.length_append,List.length_map,List.length_cons]
    omega
theorem aad {S:aG} (h:tu S) (owner:Int) (pre:Str):(Cr.dW [10] (S.list owner pre).1).length≤1500:=by
 unfold aG.list;split;(·simp[Cr.dW])
 · have h1:((S.sh.flatMap fun x=>x.vals.map (·.1)).filter fun k=>pre.isPrefixOf k).length≤32:=by have:=O0 S.sh h.few;rw[h.len]at this;exact Nat.le_trans (List.length_filter_le _ _) this
   have h2:=uJ [10] 40 (Cr.sortStr ((S.sh.flatMap fun x=>x.vals.map (·.1)).filter fun k=>pre.isPrefixOf k)) (fun x hx=>by
     have hx:=(List.mem_filter.1 ((iU _).mem_iff.1 hx)).1
     obtain⟨y,hy,hx⟩:=List.mem_flatMap.1 hx
     obtain⟨p,hp,rfl⟩:=List.mem_map.1 hx
     exact(h.vals y hy p hp).1)
   rw[jB]at h2;exact Nat.le_trans h2 (Nat.le_trans (Nat.mul_le_mul_right _ h1) (by decide))
theorem Ed:∀(s:Str) (W V:Cr.fO) (m:Int),Cr.nK W s=some V→(-m≤W.ax∧W.ax≤m)∧(-m≤W.ay∧W.ay≤m)∧(-1≤W.tx∧W.tx≤1)∧(-1≤W.ty∧W.ty≤1)→(-(m+s.length)≤V.ax∧V.ax≤m+s.length)∧(-(m+s.length)≤V.ay∧V.ay≤m+s.length)∧(-1≤V.tx∧V.tx≤1)∧(-1≤V.ty∧V.ty≤1)
  |[],W,V,m,h,hb=>by
    simp only[Cr.nK,Option.some.injEq]at h
    subst h
    simpa using hb
  |c::s,W,V,m,h,hb=>by
    unfold Cr.nK at h
    cases hs:W.step c with
    |none=>rw[hs]at h;cases h
    |some X=>
      rw[hs]at h
      have hX:(-(m+1)≤X.ax∧X.ax≤m+1)∧(-(m+1)≤X.ay∧X.ay≤m+1)∧(-1≤X.tx∧X.tx≤1)∧(-1≤X.ty∧X.ty≤1):=by
        obtain⟨_,_,_,_⟩:=hb
        rw[fO.step_eq]at hs
        repeat' split at hs
        all_goals first|(simp only[Option.some.injEq]at hs;subst hs;simp only;omega)|cases hs
      have:=Ed s X V (m+1) h hX
      simp only[List.length_cons]
      omega
theorem aae {s:Str} {V:Cr.fO} (h:Cr.vX s=some V):V.text.length≤100:=by unfold Cr.vX at h;split at h;(·cases h);(·have:=Ed s _ V 0 h (by simp);have h1:=fK (n:=V.ax) (by omega) (by omega);have h2:=fK (n:=V.ay) (by omega) (by omega);have h3:=fK (n:=V.tx) (by omega) (by omega);have h4:=fK (n:=V.ty) (by omega) (by omega);unfold Cr.fO.text;simp only[List.length_append,List.length_cons];omega)
structure G5 (n:Nat) (W:aJ):Prop where
  SG:tu W.store
  tab:GX n W.table
theorem G5.mono {n m:Nat} {W:aJ} (h:G5 n W) (hm:n≤m):G5 m W:=⟨h.SG,h.tab.mono hm⟩
structure gK (r:bK):Prop where
  st:0≤r.status∧r.status≤1000
  uV:r.fields=[]∨∃f,r.fields=[f]∧f.name.length≤10∧f.value.length≤15000
  body:r.body.length≤2000
theorem gK.plain {st:Int} {cl:Bool} (h0:0≤st) (h1:st≤1000):gK (Cr.aH st cl):=⟨⟨h0,h1⟩,.inl rfl,(ig.plain (cl:=cl) h0 h1).body⟩
theorem gK.failed (e:Int):gK (Cr.failed e):=by unfold Cr.failed;(repeat' split);(all_goals exact gK.plain (by decide) (by decide))
theorem gK.okR {st:Int} {body:Str} (h0:0≤st) (h1:st≤1000) (h2:body.length≤2000):gK (Cr.kL st body):=⟨⟨h0,h1⟩,.inl rfl,h2⟩
theorem Ee (s:Str) (hs:s.length≤600):∀r∈(Cr.bD s).1,r.method.length≤600:=by unfold Cr.bD;split;(·intro r hr;simp at hr);(·rename_i l hl;have:=lY s.length _ _ _ (dG s 10) (by simp) hl;simp only;split;(·intro r hr;simp at hr);(·intro r hr;have h:=(this r hr).1;omega))
theorem VD {n:Nat} {W:aJ} {c:aW} {owner:Int} (hW:G5 n W) (hc:mO n c) (hn:n≤50000):G5 (n+1) (W.answer c owner).1∧gK (W.answer c owner).2∧∀k,((W.answer c owner).1.store.at k).owner=(W.store.at k).owner:=by have hW1:=hW.mono (Nat.le_succ n);unfold aJ.answer;simp only;split;(·split;(·exact⟨hW1,gK.failed _,fun _=>rfl⟩);(·have h1:=acs hW.SG owner c.param;have h2:=Us (W.store.get owner c.param).1 (by omega);exact⟨hW1,⟨by simp[Cr.kL],.inr ⟨_,rfl,(by show Cr.Rx.length≤10;decide),by simp only;omega⟩,by simp only[Cr.kL];omega⟩,fun _=>rfl⟩));(·split;(·obtain⟨h1,h2⟩:=Yl hW.SG owner c.param c.req.body c.tag hc.req.body;split;(·exact⟨⟨h1,hW1.tab⟩,gK.failed _,h2⟩);(·exact⟨⟨h1,hW1.tab⟩,gK.okR (by split<;>decide) (by split<;>decide) (by simp),h2⟩));(·split;(·obtain⟨h1,h2⟩:=VC hW.SG owner c.param c.tag;split;(·exact⟨⟨h1,hW1.tab⟩,gK.failed _,h2⟩);(·exact⟨⟨h1,hW1.tab⟩,gK.okR (by decide) (by decide) (by simp),h2⟩));(·split;(·split;(·exact⟨hW1,gK.failed _,fun _=>rfl⟩);(·have:=aad hW.SG owner c.param;exact⟨hW1,gK.okR (by decide) (by decide) (by omega),fun _=>rfl⟩));(·split;(·split;(·exact⟨hW1,gK.plain (by decide) (by decide),fun _=>rfl⟩);(·rename_i V hV;have:=aae hV;exact⟨hW1,gK.okR (by decide) (by decide) (by omega),fun _=>rfl⟩));(·split;(·split;(·have hv:=hW.tab.Aq;have ht:GX (n+1) (W.table.set (Cr.bD c.req.body).1):=GX.set ⟨hv.1,by omega⟩ _ (Ee _ hc.req.body);have h3:=ht.Aq;have:=fK (n:=(W.table.set (Cr.bD c.req.body).1).version) (by omega) (by omega);exact⟨⟨hW.SG,ht⟩,gK.okR (by decide) (by decide) (by omega),fun _=>rfl⟩);(·split;(iterate 2 (·exact⟨hW1,gK.plain (by decide) (by decide),fun _=>rfl⟩))));(·split;(·exact⟨⟨hW.SG,hW1.tab⟩,gK.okR (by decide) (by decide) (by decide),fun _=>rfl⟩);(·exact⟨hW1,gK.okR (by decide) (by decide) (by decide),fun _=>rfl⟩)))))))
theorem Ym {n:Nat} {W:aJ} {c:aW} {owner:Int} (hW:G5 n W) (hc:mO n c) (hn:n≤50000):G5 (n+1) (W.inner c owner).1∧gK (W.inner c owner).2∧∀k,((W.inner c owner).1.store.at k).owner=(W.store.at k).owner:=by have hW1:=hW.mono (Nat.le_succ n);unfold aJ.inner;split;(·exact⟨hW1,gK.plain (by decide) (by decide),fun _=>rfl⟩);(·split;(·exact⟨hW1,gK.plain (by decide) (by decide),fun _=>rfl⟩);(·split;(·exact⟨hW1,gK.plain (by decide) (by decide),fun _=>rfl⟩);(·split;(·exact VD hW hc hn);(·split;(·have h1:=uJ [44,32] 600 c.eH.allow hc.Gl.2;have h2:=Nat.mul_le_mul_right (600+[(44:UInt8),32].length) hc.Gl.1;simp only[List.length_cons,List.length_nil]at h1 h2;exact⟨hW1,⟨by simp[Cr.aH],.inr ⟨_,rfl,(by show Cr.Ky.length≤10;decide),by simp only;omega⟩,(gK.plain (st:=405) (cl:=false) (by decide) (by decide)).body⟩,fun _=>rfl⟩);(·exact⟨hW1,gK.plain (by decide) (by decide),fun _=>rfl⟩)))))
theorem afx {n:Nat} {W:aJ} {c:aW} {owner:Int} (hW:G5 n W) (hc:mO n c) (hn:n≤50000):G5 (n+1) (W.do c owner).1∧ig (W.do c owner).2∧∀k,((W.do c owner).1.store.at k).owner=(W.store.at k).owner:=by obtain⟨h1,h2,h3⟩:=Ym (owner:=owner) hW hc hn;have a:=hc.conn;have b:=hc.seq;have d:=hc.Aq;have i1:=fK (n:=c.conn) (by omega) (by omega);have i2:=fK (n:=c.seq) (by omega) (by omega);have i3:=fK (n:=c.version) (by omega) (by omega);have n1:Cr.WN.length=4:=rfl;have n2:Cr.uQ.length=9:=rfl;refine⟨h1,?_,h3⟩;unfold aJ.do;simp only;(rcases h2.uV with hf|⟨f,hf,f1,f2⟩);(·refine⟨h2.st,?_,?_,?_,h2.body⟩;(·simp only[hf,List.length_cons,List.length_nil];omega);(·simp only[hf];intro f hm;(rcases List.mem_cons.1 hm with rfl|hm);(·simp only[List.length_append,List.length_cons];omega);(·obtain rfl:=List.mem_singleton.1 hm;simp only;omega));(·simp only[hf,Cr.dQ,List.length_append,List.length_cons,List.length_nil];omega));(·refine⟨h2.st,?_,?_,?_,h2.body⟩;(·simp only[hf,List.length_cons,List.length_nil];omega);(·simp only[hf];intro f hm;(rcases List.mem_cons.1 hm with rfl|hm);(·simp only[List.length_append,List.length_cons];omega);(·(rcases List.mem_cons.1 hm with rfl|hm);(·simp only;omega);(·obtain rfl:=List.mem_singleton.1 hm;omega)));(·simp only[hf,Cr.dQ,List.length_append,List.length_cons,List.length_nil];omega))
open Cr (aI Srv dB aU aP bg fJ dA kY Dn bu jo kT)
def tC (st:Int):Prop:=0≤st∧st≤1000
theorem aaf {b:bu} (x:UInt8) (h:tC b.status):tC (b.take x).status:=by unfold bu.take;split;(·exact(⟨by decide,by decide⟩:tC 413));(·exact h)
theorem Yn {b:bu} (l:Str) (h:tC b.status):tC (b.whole l).status:=by have h4:tC 400:=⟨by decide,by decide⟩;have h5:tC 413:=⟨by decide,by decide⟩;unfold bu.whole;split;(·simp only;(repeat' split);(all_goals first|exact h|exact h4|exact h5));(·split;(·simp only;split;(·exact h);(·exact h4));(·exact h))
theorem aag {b:bu} (x:UInt8) (h:tC b.status):tC (b.feed x).status:=by have h4:tC 400:=⟨by decide,by decide⟩;have h5:tC 431:=⟨by decide,by decide⟩;have ht:=aaf x h;unfold bu.feed;split;(·exact h);(·split;(·exact ht);(·split;(·simp only;split;(·exact ht);(·exact ht));(·simp only;split;(·exact h5);(·split;(·split;(·exact h4);(·exact h));(·split;(·exact h4);(·exact Yn _ h))))))
theorem Yo (r:gQ):tC (Cr.frame r).status:=by unfold Cr.frame Cr.bV;simp only;(repeat' split);(all_goals (unfold tC;simp))
theorem QS (ls:List Str):tC (Cr.iR ls).status:=by unfold Cr.iR Cr.bV;(repeat' split);(all_goals first|exact Yo _|(unfold tC;simp))
structure mF (c:aU):Prop where
  st:tC c.status
  body:∀b,c.body=some b→tC b.status
theorem mF.new:mF aU.new:=⟨(by unfold tC;simp[aU.new]),by simp[aU.new]⟩
theorem mF.feed {c:aU} (h:mF c) (s:Str):mF (c.feed s):=by unfold aU.feed;split;(·exact h);(·exact⟨h.1,h.2⟩)
theorem mF.ends {c:aU} {b:bu} (h:mF c) (hb:c.body=some b):mF (c.ends b).1:=by unfold aU.ends aU.fail;simp only;(repeat' split);(·exact⟨h.2 b hb,h.2⟩);(·exact⟨(by unfold tC;simp),by simp⟩);(·exact⟨h.1,by simp⟩)
theorem mF.byte {c:aU} (h:mF c) (x:UInt8) (hb:c.body=none):mF (c.byte x):=by have hn:=h.2;unfold aU.byte aU.fail;simp only;(repeat' split);(all_goals first|exact⟨h.1,hn⟩|exact⟨QS _,hn⟩|exact⟨(by unfold tC;simp),hn⟩|exact⟨h.1,fun b hb=>by simp only[Option.some.injEq]at hb;subst hb;unfold tC;simp[bu.new]⟩)
theorem mF.dR:∀(k:Nat) (c:aU),mF c→mF (aU.dR k c).1
  |0,c,h=>h
  |k+1,c,h=>by
    unfold aU.dR
    split
    · exact h
    · split
      · rename_i b hb
        split
        · exact h.ends hb
        · split
          · exact h
          · exact mF.dR k _ ⟨h.1,fun b' hb'=>by simp only[Option.some.injEq]at hb';subst hb';exact aag _ (h.2 b hb)⟩
      · rename_i hb
        split
        · exact h
        · rename_i x s hw
          exact mF.dR k _ (mF.byte (c:={c with wait:=s}) ⟨h.1,h.2⟩ x hb)
def vz (l:List Str):Nat:=(l.map List.length).sum
def vF (N:bg) (i:Int):Nat:=match N.at i with
  |none=>0
  |some c=>vz c.inp
structure NcF (n D:Nat) (c:fJ):Prop where
  inp:c.inp.length≤n
  came:0≤c.came∧c.came≤D
  wrote:c.written.length≤20000*n
  tot:vz c.inp≤D
theorem NcF.mono {n m D E:Nat} {c:fJ} (h:NcF n D c) (hn:n≤m) (hD:D≤E):NcF m E c:=⟨Nat.le_trans h.inp hn,⟨h.came.1,by have:=h.came.2;omega⟩,by have:=h.wrote;omega,Nat.le_trans h.tot hD⟩
structure xy (n D:Nat) (N:bg):Prop where
  ah:N.ah.length≤n
  dials:N.dials.length≤n
  lt:∀d∈N.dials,d<N.ah.length
  each:∀c∈N.ah,NcF n D c
theorem xy.mono {n m D E:Nat} {N:bg} (h:xy n D N) (hn:n≤m) (hD:D≤E):xy m E N:=⟨Nat.le_trans h.ah hn,Nat.le_trans h.dials hn,h.lt,fun c hc=>(h.each c hc).mono hn hD⟩
theorem xy.fits {n D:Nat} {N:bg} (h:xy n D N) (hn:n≤50000) (hD:D≤1000000):EM N 1000000000:=
  ⟨by have:=h.ah;omega,by have:=h.dials;omega,fun c hc=>by
    have:=h.each c hc
    have a:=this.inp;have b:=this.came;have d:=this.wrote
    omega⟩
theorem SL {N:bg} {i:Int} {c:fJ} (h:N.at i=some c):0≤i∧N.ah[i.toNat]? =some c:=by unfold bg.at at h;split at h;(·cases h);(·exact⟨by omega,h⟩)
theorem at_mem {N:bg} {i:Int} {c:fJ} (h:N.at i=some c):c∈N.ah:=List.mem_of_getElem? (SL h).2
theorem at_set {N:bg} {i:Int} {c:fJ} (h:N.at i=some c) (c':fJ) (j:Int):(N.set i c').at j=if j=i then some c' else N.at j:=by obtain⟨h0,h1⟩:=SL h;have hlt:=(List.getElem?_eq_some_iff.1 h1).1;unfold bg.at bg.set;simp only;(by_cases hj:j=i);(·subst hj;rw[if_neg (by omega),if_pos rfl,List.getElem?_set_self hlt]);(·rw[if_neg hj];split;(·rfl);(·rw[List.getElem?_set_ne (by omega)]))
theorem xy.set {n D:Nat} {N:bg} (h:xy n D N) (i:Int) {c:fJ} (hc:NcF n D c):xy n D (N.set i c):=by refine⟨by simpa[bg.set]using h.ah,h.dials,fun d hd=>by simpa[bg.set]using h.lt d hd,fun x hx=>?_⟩;(rcases List.mem_or_eq_of_mem_set hx with hx|rfl);(·exact h.each x hx);(·exact hc)
structure qL (n D:Nat) (N N':bg):Prop where
  fit:xy n D N'
  len:N'.ah.length=N.ah.length
  dials:N'.dials=N.dials
  ins:∀j,vF N' j≤vF N j
theorem qL.refl {n D:Nat} {N:bg} (h:xy n D N):qL n D N N:=⟨h,rfl,rfl,fun _=>Nat.le_refl _⟩
theorem qL.trans {n D:Nat} {A B C:bg} (h:qL n D A B) (k:qL n D B C):qL n D A C:=⟨k.fit,k.len.trans h.len,k.dials.trans h.dials,fun j=>Nat.le_trans (k.ins j) (h.ins j)⟩
theorem qL.Aj {n D:Nat} {N:bg} {i:Int} {c c':fJ} (h:xy n D N) (ha:N.at i=some c) (hc:NcF n D c') (ht:vz c'.inp≤vz c.inp):qL n D N (N.set i c'):=by refine⟨h.set i hc,by simp[bg.set],rfl,fun j=>?_⟩;unfold vF;rw[at_set ha];(by_cases hj:j=i);(·subst hj;rw[if_pos rfl,ha];exact ht);(·rw[if_neg hj];exact Nat.le_refl _)
theorem BQ {n D:Nat} {N:bg} (h:xy n D N) (i:Int):qL n D N (N.close i):=by unfold bg.close;split;(·exact .refl h);(·rename_i c ha;have hc:=h.each c (at_mem ha);exact .Aj h ha ⟨hc.1,hc.2,hc.3,hc.4⟩ (Nat.le_refl _))
theorem Ef {n D:Nat}:∀(l:List aI) {N:bg},xy n D N→qL n D N (Cr.closeAll N l)
  |[],N,h=>.refl h
  |c::l,N,h=>(BQ h c.id).trans (Ef l (BQ h c.id).fit)
theorem Yp {n D:Nat} {N:bg} (h:xy n D N) (i:Int) (s:Str) (hs:s.length≤19000):qL (n+1) D N (N.write i s):=by have h1:=h.mono (Nat.le_succ n) (Nat.le_refl D);unfold bg.write;split;(·exact .refl h1);(·rename_i c ha;split;(·exact .refl h1);(·have hc:=h.each c (at_mem ha);exact .Aj h1 ha ⟨by have:=hc.1;simp only;omega,hc.2,by have:=hc.3;simp only[List.length_append];omega,hc.4⟩ (Nat.le_refl _)))
theorem aah {n D:Nat} {N:bg} (h:xy n D N) (i:Int):qL n D N (N.shut i).1:=by unfold bg.shut;split;(·exact .refl h);(·rename_i c ha;split;(·exact .refl h);(·have hc:=h.each c (at_mem ha);exact .Aj h ha ⟨hc.1,hc.2,hc.3,hc.4⟩ (Nat.le_refl _)))
theorem Yq {n D:Nat} {N:bg} (h:xy n D N) (i:Int):qL n D N (N.reset i).1:=by unfold bg.reset;split;(·exact .refl h);(·rename_i c ha;split;(·exact .refl h);(·have hc:=h.each c (at_mem ha);exact .Aj h ha ⟨by simp,hc.2,hc.3,by simp[vz]⟩ (by simp[vz])))
theorem SQ {n D:Nat} {N:bg} (h:xy n D N) (i:Int):qL n D N (N.read i).1∧∀s,(N.read i).2=some s→vF (N.read i).1 i+s.length≤vF N i:=by unfold bg.read;split;(·exact⟨.refl h,fun s hs=>by cases hs⟩);(·rename_i c ha;split;(·exact⟨.refl h,fun s hs=>by cases hs⟩);(·rename_i x l hi;have hc:=h.each c (at_mem ha);(have ht:vz c.inp=x.length+vz l:=by rw[hi];simp[vz]);refine⟨.Aj h ha ⟨by have:=hc.1;rw[hi]at this;simp only[List.length_cons]at this;simp only;omega,hc.2,hc.3,by have:=hc.4;simp only;omega⟩ (by simp only;omega),fun s hs=>?_⟩;simp only[Option.some.injEq]at hs;subst hs;unfold vF;rw[at_set ha,if_pos rfl,ha];simp only;omega))
structure I7 (n:Nat) (b:dB):Prop where
  out:b.out≤n
  win:b.slots.length≤b.win∧b.win≤8
  slots:∀r,some r∈b.slots→ig r
theorem I7.mono {n m:Nat} {b:dB} (h:I7 n b) (hn:n≤m):I7 m b:=⟨Nat.le_trans h.out hn,h.win,h.slots⟩
theorem I7.give {n:Nat} {b:dB} (h:I7 n b):I7 n b.give:=by have:=h.win;unfold dB.give;split;(·exact h);(·refine⟨h.out,by simp only[List.length_append,List.length_singleton];omega,fun r hr=>?_⟩;(rcases List.mem_append.1 hr with hr|hr);(·exact h.slots r hr);(·simp at hr))
theorem I7.uC {n:Nat} {b:dB} (h:I7 n b) (k:Int) {r:bK} (hr:ig r):I7 n (b.uC k r):=by unfold dB.uC;split;(·exact h);(·simp only;split;(·exact h);(·refine⟨h.out,by simpa using h.win,fun x hx=>?_⟩;(rcases List.mem_or_eq_of_mem_set hx with hx|hx);(·exact h.slots x hx);(·simp only[Option.some.injEq]at hx;subst hx;exact hr)))
structure tH (n D:Nat) (N:bg) (c:aI):Prop where
  buf:I7 n c.buf
  id:0≤c.id∧c.id<N.ah.length
  fed:0≤c.fed∧c.fed+vF N c.id≤D
  wait:c.cut.wait.length+vF N c.id≤D
  cut:cZ c.cut
  cst:mF c.cut
  pend:∀r,c.pending=some r→eG r
  act:0≤c.iO∧c.iO≤n
theorem tH.mono {n m D E:Nat} {N:bg} {c:aI} (h:tH n D N c) (hn:n≤m) (hD:D≤E):tH m E N c:=⟨h.buf.mono hn,h.id,by have:=h.fed;omega,Nat.le_trans h.wait hD,h.cut,h.cst,h.pend,by have:=h.act;omega⟩
theorem tH.le {n D:Nat} {N N':bg} {c:aI} (h:tH n D N c) (hl:N.ah.length≤N'.ah.length) (hi:vF N' c.id≤vF N c.id):tH n D N' c:=⟨h.buf,by have:=h.id;omega,by have:=h.fed;omega,by have:=h.wait;omega,h.cut,h.cst,h.pend,h.act⟩
theorem tH.fits {n D:Nat} {N:bg} {c:aI} (h:tH n D N c) (hn:n≤50000) (hD:D≤1000000):yw c:=⟨by have:=h.buf.out;omega,by have:=h.fed;omega,by have:=h.wait;omega,h.cut⟩
theorem tH.refuse {n D:Nat} {N:bg} {c:aI} (h:tH n D N c) {r:bK} (hr:ig r):tH n D N (c.refuse r):=by unfold aI.refuse;simp only;split;(iterate 2 (·exact⟨h.buf.give.uC _ hr,h.id,h.fed,h.wait,h.cut,h.cst,h.pend,h.act⟩))
theorem tH.next {n D:Nat} {N:bg} {c:aI} (h:tH n D N c):tH n D N c.next:=by have h1:=h.cut.next;have h2:=mF.dR (c.cut.wait.length+1) c.cut h.cst;have h3:=UR c.cut;have hw:=h.wait;unfold aI.next;split;(·rename_i k r hk;rw[hk]at h1 h3;(have h2':mF k:=by(have h4:(c.cut.next).1=k:=by rw[hk]);rw[←h4];exact h2);exact⟨h.buf,h.id,h.fed,by simp only at h3⊢;omega,h1.1,h2',fun q hq=>by simp only[Option.some.injEq]at hq;subst hq;exact h1.2 _ rfl,h.act⟩);(·rename_i k hk;rw[hk]at h1 h3;(have h2':mF k:=by(have h4:(c.cut.next).1=k:=by rw[hk]);rw[←h4];exact h2);exact⟨h.buf,h.id,h.fed,by simp only at h3⊢;omega,h1.1,h2',h.pend,h.act⟩)
structure LM (n:Nat) (j:kY):Prop where
  req:eG j.req
  conn:0≤j.conn∧j.conn≤n
  seq:0≤j.seq∧j.seq≤n+8
theorem LM.nil (n:Nat):LM n kY.nil:=⟨eG.nil,by simp[kY.nil],by simp[kY.nil];omega⟩
theorem LM.mono {n m:Nat} {j:kY} (h:LM n j) (hn:n≤m):LM m j:=⟨h.req,by have:=h.conn;omega,by have:=h.seq;omega⟩
structure I8 (n:Nat) (S:aG) (i:Nat) (w:aP):Prop where
  st:0≤w.state∧w.state≤4
  fD:LM n w.fD
  call:mO n w.call
  needs:w.needs.length≤4∧∀k∈w.needs,0≤k∧k<4
  kW:ig w.kW
  lock:w.state=2→∀k∈w.call.needs,k∈w.needs∨(S.at k.toNat).owner=(i:Int)+1
  held:w.state=3→∀k∈w.call.needs,(S.at k.toNat).owner=(i:Int)+1
theorem I8.nil (n:Nat) (S:aG) (i:Nat):I8 n S i .nil:=⟨by simp[aP.nil],LM.nil n,mO.nil n,by simp[aP.nil],ig.nil,by simp[aP.nil],by simp[aP.nil]⟩
theorem I8.mono {n m:Nat} {S S':aG} {i:Nat} {w:aP} (h:I8 n S i w) (hn:n≤m) (hS:∀k,(S.at k).owner=(i:Int)+1→(S'.at k).owner=(i:Int)+1):I8 m S' i w:=
  ⟨h.st,h.fD.mono hn,h.call.mono hn,h.needs,h.kW,fun hs k hk=>(h.lock hs k hk).imp id (hS _),fun hs k hk=>hS _ (h.held hs k hk)⟩
theorem QU (c:aW):c.needs.length≤4∧∀k∈c.needs,0≤k∧k<4:=by unfold aW.needs;split;(·simp);(·split;(·simp);(·split;(·have:=gI c.param;simp;omega);(·simp)))
structure dh (n D:Nat) (S:Srv):Prop where
  net:xy n D S.net
  wld:G5 n S.world
  L9:∀c∈S.ah,tH n D S.net c
  few:S.ah.length≤n
  ids:((S.ah.map fun c=>c.id.toNat)++S.net.dials).Nodup
  ref:0≤S.refused∧S.refused≤n
  now:0≤S.now∧S.now≤n
  Yr:S.queue.jobs.length≤S.queue.cap∧S.queue.cap≤16
  fD:∀j∈S.queue.jobs,LM n j
  SS:∀i w,S.workers[i]? =some w→I8 n S.world.store i w
  xA:S.workers.length≤4
  log:S.log.length≤n
  conf:1≤S.conf.idle∧S.conf.idle≤1073741824∧1≤S.conf.drain∧S.conf.drain≤1073741824
  dead:0≤S.dead∧S.dead≤n+1073741824
  mode:0≤S.mode∧S.mode≤2
section
variable {n m D E:Nat} {S:Srv}
theorem dh.mono (h:dh n D S) (hn:n≤m) (hD:D≤E):dh m E S:=
  ⟨h.net.mono hn hD,h.wld.mono hn,fun c hc=>(h.L9 c hc).mono hn hD,Nat.le_trans h.few hn,h.ids,by have:=h.ref;omega,by have:=h.now;omega,h.Yr,fun j hj=>(h.fD j hj).mono hn,fun i w hw=>(h.SS i w hw).mono hn (fun _=>id),h.xA,Nat.le_trans h.log hn,h.conf,by have:=h.dead;omega,h.mode⟩
theorem dh.jh (h:dh n D S) {N:bg} (k:qL n D S.net N):dh n D {S with net:=N}:=
  ⟨k.fit,h.wld,fun c hc=>(h.L9 c hc).le (Nat.le_of_eq k.len.symm) (k.ins _),h.few,by rw[show({S with net:=N}:Srv).net.dials=S.net.dials from k.dials];exact h.ids,h.ref,h.now,h.Yr,h.fD,h.SS,h.xA,h.log,h.conf,h.dead,h.mode⟩
theorem dh.filter (h:dh n D S) (p:aI→Bool):dh n D {S with ah:=S.ah.filter p}:=
  ⟨h.net,h.wld,fun c hc=>h.L9 c (List.mem_filter.1 hc).1,Nat.le_trans (List.length_filter_le _ _) h.few,h.ids.sublist ((List.filter_sublist.map _).append (List.Sublist.refl _)),h.ref,h.now,h.Yr,h.fD,h.SS,h.xA,h.log,h.conf,h.dead,h.mode⟩
theorem dh.aai (h:dh n D S) {k:Int} (hk:0≤k∧k≤2):dh n D {S with mode:=k}:=⟨h.1,h.2,h.3,h.4,h.5,h.6,h.7,h.8,h.9,h.10,h.11,h.12,h.13,h.14,hk⟩
theorem dh.settle (h:dh n D S):dh n D S.settle:=by(have h1:=(h.jh (Ef (S.ah.filter aI.idle) h.net)).filter fun c=>!c.idle);unfold Srv.settle;simp only;split;(·exact h1);(·split;(·exact h1.aai (by decide));(·exact h1))
theorem dh.drop (h:dh n D S) (id:Int):dh n D (S.drop id):=(h.filter fun c=>!(c.id==id)).settle
theorem acv {l:List aI} {j:Nat} {c c':aI} (hc:l[j]? =some c) (hid:c'.id=c.id):(l.set j c').map (fun c=>c.id.toNat)=l.map fun c=>c.id.toNat:=by apply List.ext_getElem?;intro k;rw[List.map_set,hid];have hj:=(List.getElem?_eq_some_iff.1 hc).1;(by_cases hk:k=j);(·subst hk;rw[List.getElem?_set_self (by simpa using hj)];simp[hc]);(·rw[List.getElem?_set_ne (Ne.symm hk)])
theorem dh.G6 (h:dh n D S) {j:Nat} {c c':aI} (hc:S.ah[j]? =some c) (hid:c'.id=c.id) (hf:tH n D S.net c'):dh n D {S with ah:=S.ah.set j c'}:=
  ⟨h.net,h.wld,fun x hx=>by
    rcases List.mem_or_eq_of_mem_set hx with hx|rfl
    · exact h.L9 x hx
    · exact hf,by simpa using h.few,by rw[acv hc hid];exact h.ids,h.ref,h.now,h.Yr,h.fD,h.SS,h.xA,h.log,h.conf,h.dead,h.mode⟩
theorem dh.accept (h:dh n D S) (hd:S.net.dials≠[]):dh (n+1) D S.accept:=by have h1:=h.mono (Nat.le_succ n) (Nat.le_refl D);(cases hds:S.net.dials with|nil=>(exact absurd hds hd)|cons d ds=>(have hlt:=h.net.lt d (by rw[hds];simp);obtain⟨x,hx⟩:∃x,S.net.ah[d]? =some x:=⟨S.net.ah[d],by simp[hlt]⟩;(have ha:S.net.at (d:Int)=some x:=by unfold bg.at;rw[if_neg (by omega)];exact hx);have Cc:=h1.net.each x (at_mem ha);(have e1:S.net.accept=(⟨S.net.ah.set d {x with taken:=true},ds⟩,d,true):=by unfold bg.accept;rw[hds];simp only[hx]);have hN:qL (n+1) D S.net (S.net.set d {x with taken:=true}):=.Aj h1.net ha ⟨Cc.1,Cc.2,Cc.3,Cc.4⟩ (Nat.le_refl _);(have hin:∀j,vF ⟨S.net.ah.set d {x with taken:=true},ds⟩ j=vF (S.net.set d {x with taken:=true}) j:=fun _=>rfl);(have hlen:(S.net.ah.set d {x with taken:=true}).length=S.net.ah.length:=by simp);unfold Srv.accept;simp only[e1];refine⟨⟨by simpa using h1.net.ah,by have:=h1.net.dials;rw[hds]at this;simp only[List.length_cons]at this;simp only;omega,fun k hk=>by rw[hlen];exact h.net.lt k (by rw[hds];simp[hk]),hN.fit.each⟩,h1.wld,fun c hc=>?_,?_,?_,h1.ref,h1.now,h1.Yr,h1.fD,h1.SS,h1.xA,h1.log,h1.conf,h1.dead,h1.mode⟩;(·(rcases List.mem_append.1 hc with hc|hc);(·exact(h1.L9 c hc).le (Nat.le_of_eq hlen.symm) (hN.ins _));(·obtain rfl:=List.mem_singleton.1 hc;(have hle:vF ⟨S.net.ah.set d {x with taken:=true},ds⟩ (d:Int)≤D:=by refine Nat.le_trans (hN.ins d) ?_;unfold vF;rw[ha];exact Cc.tot);refine⟨⟨Nat.zero_le _,⟨Nat.zero_le _,?_⟩,by simp[dB.new]⟩,⟨by simp only;omega,by simp only[hlen];omega⟩,⟨by simp,by simp only;omega⟩,by simp only[aU.new,List.length_nil];omega,cZ.new,mF.new,by simp,h1.now⟩;simp only[dB.new];omega));(·have:=h.few;simp only[List.length_append,List.length_singleton];omega);(·have:=h.ids;rw[hds]at this;simpa using this)))
theorem dh.bQ (h:dh n D S) {c:aI} {r:gQ} (hc:tH n D S.net c) (hr:eG r):dh (n+1) D (S.bQ c r).1∧tH (n+1) D S.net (S.bQ c r).2∧(S.bQ c r).1.net=S.net:=by have h1:=h.mono (Nat.le_succ n) (Nat.le_refl D);have hc1:=hc.mono (Nat.le_succ n) (Nat.le_refl D);unfold Srv.bQ;simp only;split;(·exact⟨h1,hc1.refuse (ig.plain (st:=503) (cl:=true) (by decide) (by decide)),rfl⟩);(·split;(·exact⟨⟨h1.1,h1.2,h1.3,h1.4,h1.5,by have:=h.ref;simp only;omega,h1.7,h1.8,h1.9,h1.10,h1.11,h1.12,h1.13,h1.14,h1.15⟩,hc1.refuse (ig.plain (st:=503) (cl:=r.close) (by decide) (by decide)),rfl⟩);(·rename_i hq;refine⟨⟨h1.1,h1.2,h1.3,h1.4,h1.5,h1.6,h1.7,⟨by have:=h.Yr.1;simp only[List.length_append,List.length_singleton];omega,h.Yr.2⟩,fun j hj=>?_,h1.10,h1.11,h1.12,h1.13,h1.14,h1.15⟩,?_,rfl⟩;(·(rcases List.mem_append.1 hj with hj|hj);(·exact h1.fD j hj);(·obtain rfl:=List.mem_singleton.1 hj;have a:=hc.id;have b:=h.net.ah;have o:=hc.buf.out;have w:=hc.buf.win;refine⟨hr,by simp only;omega,?_⟩;simp only[dB.given];(split<;>omega)));(·(have hcc:tH (n+1) D S.net (if r.close then{c with buf:=c.buf.give,over:=true}else{c with buf:=c.buf.give}):=by split<;>exact⟨hc1.buf.give,hc1.id,hc1.fed,hc1.wait,hc1.cut,hc1.cst,hc1.pend,hc1.act⟩);exact hcc)))
theorem G7 (S:Srv) (c:aI) (r:gQ):(S.bQ c r).1.ah=S.ah:=by unfold Srv.bQ;simp only;(repeat' split);(all_goals rfl)
theorem dh.read (h:dh n D S) (j:Nat):dh (n+1) D (S.read j):=by
 have h1:=h.mono (Nat.le_succ n) (Nat.le_refl D);unfold Srv.read;split;(·exact h1)
 · rename_i c hc;have hcf:=h.L9 c (List.mem_of_getElem? hc);have hc1:=hcf.mono (Nat.le_succ n) (Nat.le_refl D);simp only;unfold Srv.nR;split;(·rename_i r hp;have aiF:tH n D S.net {c with pending:=none}:=⟨hcf.1,hcf.2,hcf.3,hcf.4,hcf.5,hcf.6,by simp,hcf.8⟩;obtain⟨k1,k2,k3⟩:=h.bQ aiF (hcf.pend r hp);have hd:=zD S {c with pending:=none} r;have hcs:=G7 S {c with pending:=none} r;refine k1.G6 (c:=c) (by rw[hcs];exact hc) ((EP _).trans hd.2.2) ?_;rw[k3];exact k2.next)
   · split;(·simp only;refine h1.G6 hc ?_ ?_;(·split;(·unfold aI.refuse;simp only;split<;>rfl);(·rfl));(·have hco:tH (n+1) D S.net {c with over:=true}:=⟨hc1.1,hc1.2,hc1.3,hc1.4,hc1.5,hc1.6,hc1.7,hc1.8⟩;split;(·exact hco.refuse (.plain hcf.cst.st.1 hcf.cst.st.2));(·exact hco)))
     · obtain⟨l1,l2⟩:=SQ h1.net c.id;split
       · rename_i N hN;rw[hN]at l1;have h2:=h1.jh l1
         exact h2.G6 (c:=c) hc rfl (by
           have:=hc1.le (N':=N) (Nat.le_of_eq l1.len.symm) (l1.ins _)
           exact⟨this.1,this.2,this.3,this.4,this.5,this.6,this.7,this.8⟩)
       · rename_i N b hN;rw[hN]at l1 l2;have h2:=h1.jh l1;have l3:=l2 b rfl;refine h2.G6 (c:=c) hc (EP _) (tH.next ?_);have a:=hc1.id;have f:=hc1.fed;have w:=hc1.wait;simp only at l3;refine⟨hc1.buf,⟨a.1,by have:=l1.len;simp only at this⊢;omega⟩,⟨by simp only;omega,by simp only;omega⟩,?_,hcf.cut.feed b,hcf.cst.feed b,hc1.pend,h1.now⟩;unfold aU.feed;split;(·simp only;omega);(·simp only[List.length_append];omega)
theorem dh.setW (h:dh n D S) {i:Nat} {w:aP} (hw:I8 n S.world.store i w):dh n D (S.setW i w):=by refine⟨h.1,h.2,h.3,h.4,h.5,h.6,h.7,h.8,h.9,fun k x hx=>?_,by simpa[Srv.setW]using h.xA,h.12,h.13,h.14,h.15⟩;have hx:(S.workers.set i w)[k]? =some x:=hx;(by_cases hk:k=i);(·subst hk;rw[List.getElem?_set]at hx;simp only[if_true]at hx;split at hx;(·obtain rfl:=Option.some.inj hx;exact hw);(·cases hx));(·rw[List.getElem?_set_ne (Ne.symm hk)]at hx;exact h.SS k x hx)
theorem dh.Yt (h:dh n D S) {W:aJ} (hW:G5 n W) (hS:∀(i:Nat) (w:aP),S.workers[i]? =some w→∀k,(S.world.store.at k).owner=(i:Int)+1→(W.store.at k).owner=(i:Int)+1):dh n D {S with world:=W}:=
  ⟨h.1,hW,h.3,h.4,h.5,h.6,h.7,h.8,h.9,fun i w hw=>(h.SS i w hw).mono (Nat.le_refl n) (hS i w hw),h.11,h.12,h.13,h.14,h.15⟩
theorem VE (S:aG) (o:Int) (k:Nat):((S.unlock o).at k).owner=if 0<o∧(S.at k).owner=o then 0 else(S.at k).owner:=by unfold aG.unlock aG.at;rw[List.getD_eq_getElem?_getD,List.getD_eq_getElem?_getD,List.getElem?_map];(cases S.sh[k]? with|none=>(simp only[Option.map_none,Option.getD_none];split<;>rfl)|some x=>(simp only[Option.map_some,Option.getD_some];(split<;>rfl)))
theorem tu.unlock {S:aG} (h:tu S) (o:Int):tu (S.unlock o):=by unfold aG.unlock;(refine⟨by simpa using h.len,fun y hy=>?_,fun y hy=>?_⟩<;>obtain⟨x,hx,rfl⟩:=List.mem_map.1 hy);(·have:=h.few x hx;(split<;>exact this));(·have:=h.vals x hx;(split<;>exact this))
theorem tu.lock {S:aG} (h:tu S) (o i:Int):tu (S.lock o i):=by unfold aG.lock;split;(·rename_i hf;unfold aG.free at hf;simp only[Bool.and_eq_true,decide_eq_true_eq]at hf;have hk:=h.at_mem (k:=i.toNat) (by omega);exact h.put i.toNat {S.at i.toNat with owner:=o} (h.few (S.at i.toNat) hk) (h.vals (S.at i.toNat) hk));(·exact h)
theorem G8 {S:aG} {o i:Int} (h:S.free o i=true):0≤i∧i<4∧((S.at i.toNat).owner=0∨(S.at i.toNat).owner=o):=by unfold aG.free at h;simp only[Bool.and_eq_true,decide_eq_true_eq,Bool.or_eq_true,beq_iff_eq]at h;exact⟨h.1.1.2,h.1.2,h.2⟩
theorem aaj {S:aG} (hl:S.sh.length=4) {o i:Int} (h:S.free o i=true) (k:Nat):((S.lock o i).at k).owner=if k=i.toNat then o else(S.at k).owner:=by obtain⟨h0,h1,_⟩:=G8 h;unfold aG.lock;rw[if_pos h,Yk _ _ _ _ (by omega)];(split<;>rfl)
theorem JI (id seq:Int) (r:bK):∀(l:List aI),∀x∈Cr.putAt id seq r l,x∈l∨∃c∈l,x={c with buf:=c.buf.uC seq r}
  |[],x,hx=>.inl hx
  |c::l,x,hx=>by
    unfold Cr.putAt at hx
    split at hx
    · rcases List.mem_cons.1 hx with rfl|hx
      · exact .inr ⟨c,by simp,rfl⟩
      · exact .inl (List.mem_cons_of_mem _ hx)
    · rcases List.mem_cons.1 hx with rfl|hx
      · exact .inl (by simp)
      · rcases JI id seq r l x hx with h|⟨d,hd,rfl⟩
        · exact .inl (List.mem_cons_of_mem _ h)
        · exact .inr ⟨d,List.mem_cons_of_mem _ hd,rfl⟩
theorem Dk (id seq:Int) (r:bK):∀(l:List aI),(Cr.putAt id seq r l).map (fun c=>c.id.toNat)=l.map fun c=>c.id.toNat
  |[]=>rfl
  |c::l=>by
    unfold Cr.putAt
    split
    · rfl
    · simp only[List.map_cons,Dk id seq r l]
theorem LP (id seq:Int) (r:bK) (l:List aI):(Cr.putAt id seq r l).length=l.length:=by have:=congrArg List.length (Dk id seq r l);simpa using this
theorem dh.putAt (h:dh n D S) (id seq:Int) {r:bK} (hr:ig r):dh n D {S with ah:=Cr.putAt id seq r S.ah}:=
  ⟨h.1,h.2,fun x hx=>by
    rcases JI _ _ _ _ x hx with hx|⟨c,hc,rfl⟩
    · exact h.L9 x hx
    · have:=h.L9 c hc
      exact⟨this.buf.uC _ hr,this.2,this.3,this.4,this.5,this.6,this.7,this.8⟩,by rw[show({S with ah:=Cr.putAt id seq r S.ah}:Srv).ah.length=_ from LP _ _ _ _];exact h.few,by rw[show({S with ah:=Cr.putAt id seq r S.ah}:Srv).ah.map (fun c=>c.id.toNat)=_ from Dk _ _ _ _];exact h.ids,h.6,h.7,h.8,h.9,h.10,h.11,h.12,h.13,h.14,h.15⟩
theorem dh.SV (h:dh n D S) (i:Nat) {w:aP} (hw:I8 n (S.world.store.unlock ((i:Int)+1)) i w):dh n D ({S with world:={S.world with store:=S.world.store.unlock ((i:Int)+1)}}.setW i w):=by refine⟨h.1,⟨h.wld.SG.unlock _,h.wld.tab⟩,h.3,h.4,h.5,h.6,h.7,h.8,h.9,fun k x hx=>?_,by simpa[Srv.setW]using h.xA,h.12,h.13,h.14,h.15⟩;have hx:(S.workers.set i w)[k]? =some x:=hx;(by_cases hk:k=i);(·subst hk;rw[List.getElem?_set]at hx;simp only[if_true]at hx;split at hx;(·obtain rfl:=Option.some.inj hx;exact hw);(·cases hx));(·rw[List.getElem?_set_ne (Ne.symm hk)]at hx;(exact(h.SS k x hx).mono (Nat.le_refl n) fun j hj=>by(show((S.world.store.unlock _).at j).owner=_);rw[VE,if_neg (by omega),hj]))
theorem dh.act (h:dh n D S) (hn:n≤50000) {i:Nat} {w:aP} (hw:S.workers[i]? =some w):dh (n+1) D (S.act i w):=by have h1:=h.mono (Nat.le_succ n) (Nat.le_refl D);have hwf:=h1.SS i w hw;have hwn:=h.SS i w hw;unfold Srv.act;simp only;split;(·exact h1.SV i ⟨by simp,hwf.fD,hwf.call,hwf.needs,hwf.kW,by simp,by simp⟩);(·obtain⟨k1,k2,k3⟩:=afx (owner:=(i:Int)+1) h.wld hwn.call hn;have h2:=h1.Yt k1 (fun j x _ k hk=>(k3 k).trans hk);have h3:dh (n+1) D {S with world:=(S.world.do w.call ((i:Int)+1)).1,log:=S.log++[(Dn.mk w.fD.conn w.fD.seq w.call.version w.fD.req (S.world.do w.call ((i:Int)+1)).2)]}:=⟨h2.1,h2.2,h2.3,h2.4,h2.5,h2.6,h2.7,h2.8,h2.9,h2.10,h2.11,by have:=h.log;simp only[List.length_append,List.length_singleton];omega,h2.13,h2.14,h2.15⟩;have h4:=h3.setW (i:=i) (w:={w with kW:=(S.world.do w.call ((i:Int)+1)).2,state:=4}) ⟨by simp,hwf.fD,hwf.call,hwf.needs,k2,by simp,by simp⟩;split;(·refine⟨h4.1,h4.2,fun c hc=>?_,by simpa using h1.few,?_,h4.6,h4.7,h4.8,h4.9,h4.10,h4.11,h4.12,h4.13,?_,by simp⟩;(·obtain⟨d,hd,rfl⟩:=List.mem_map.1 hc;have:=h1.L9 d hd;exact⟨this.1,this.2,this.3,this.4,this.5,this.6,this.7,this.8⟩);(·(have:(S.ah.map fun c=>({c with known:=S.net.came c.id}:aI)).map (fun c=>c.id.toNat)=S.ah.map fun c=>c.id.toNat:=by rw[List.map_map];rfl);(show((S.ah.map fun c=>({c with known:=S.net.came c.id}:aI)).map (fun c=>c.id.toNat)++S.net.dials).Nodup);rw[this];exact h.ids);(·have:=h.now;have:=h.conf;simp only;omega));(·exact h4))
theorem dh.work (h:dh n D S) (hn:n≤50000) {i:Nat} (hm:S.kS i=true):dh (n+1) D (S.work i):=by
 have h1:=h.mono (Nat.le_succ n) (Nat.le_refl D);unfold Srv.work;split;(·exact h1)
 · rename_i w hw;have hwf:=h1.SS i w hw;unfold Srv.kS at hm;rw[hw]at hm;simp only at hm;split;(·split;(·exact h1.setW ⟨by simp,LM.nil _,hwf.call,hwf.needs,hwf.kW,by simp,by simp⟩);(·rename_i j l hq;have h2:dh (n+1) D {S with queue:={S.queue with jobs:=l}}:=⟨h1.1,h1.2,h1.3,h1.4,h1.5,h1.6,h1.7,⟨by have:=h.Yr.1;rw[hq]at this;simp only[List.length_cons]at this;simp only;omega,h.Yr.2⟩,fun x hx=>h1.fD x (by rw[hq];exact List.mem_cons_of_mem _ hx),h1.10,h1.11,h1.12,h1.13,h1.14,h1.15⟩;exact h2.setW ⟨by simp,h1.fD j (by rw[hq];simp),hwf.call,hwf.needs,hwf.kW,by simp,by simp⟩))
   · split;(·simp only;have hc:mO (n+1) (S.world.route w.fD.req w.fD.conn w.fD.seq):=GZ h1.wld.tab hwf.fD.req hwf.fD.conn hwf.fD.seq;exact h1.setW ⟨by simp,hwf.fD,hc,QU _,hwf.kW,fun _ k hk=>.inl hk,by simp⟩)
     · split
       · rename_i h0 _ h2;split;(·rename_i hnn;refine h1.setW ⟨by simp,hwf.fD,hwf.call,hwf.needs,hwf.kW,by simp,fun _ k hk=>?_⟩;(rcases hwf.lock h2 k hk with hx|hx);(·rw[hnn]at hx;cases hx);(·exact hx))
         · rename_i k l hnn;rw[if_neg h0,if_pos h2,hnn]at hm;simp only at hm;obtain⟨f0,f1,f2⟩:=G8 hm;have hlk:=aaj h.wld.SG.len hm;have hne:=hwf.needs;rw[hnn]at hne;(have hS:∀(j:Nat) (x:aP),S.workers[j]? =some x→j≠i→∀q,(S.world.store.at q).owner=(j:Int)+1→((S.world.store.lock ((i:Int)+1) k).at q).owner=(j:Int)+1:=by intro j x _ hji q hq;rw[hlk];split;(·rename_i hqk;subst hqk;omega);(·exact hq));(have hi:∀q,(S.world.store.at q).owner=(i:Int)+1→((S.world.store.lock ((i:Int)+1) k).at q).owner=(i:Int)+1:=by intro q hq;rw[hlk];split;(·rfl);(·exact hq))
           have h2':dh (n+1) D {S with world:={S.world with store:=S.world.store.lock ((i:Int)+1) k}}:=h1.Yt ⟨h1.wld.SG.lock _ _,h1.wld.tab⟩ (fun j x hx q hq=>by
             by_cases hji:j=i
             · subst hji;exact hi q hq
             · exact hS j x hx hji q hq)
           (have hown:∀q∈w.call.needs,q∈l∨((S.world.store.lock ((i:Int)+1) k).at q.toNat).owner=(i:Int)+1:=by intro q hq;(rcases hwf.lock h2 q hq with hx|hx);(·rw[hnn]at hx;(rcases List.mem_cons.1 hx with rfl|hx);(·refine .inr ?_;rw[hlk,if_pos rfl]);(·exact .inl hx));(·exact .inr (hi _ hx)));refine h2'.setW ⟨by simp only;split<;>decide,hwf.fD,hwf.call,⟨by have:=hne.1;simp only[List.length_cons]at this;simp only;omega,fun q hq=>hne.2 q (List.mem_cons_of_mem _ hq)⟩,hwf.kW,fun _=>hown,fun hst q hq=>?_⟩;simp only at hst;split at hst;(·rename_i hl;(rcases hown q hq with hx|hx);(·rw[hl]at hx;cases hx);(·exact hx));(·cases hst)
       · split;(·exact h.act hn hw);(·exact(h1.putAt w.fD.conn w.fD.seq hwf.kW).SV i (I8.nil _ _ _))
theorem dh.write (h:dh n D S) (j:Nat):dh (n+1) D (S.write j):=by
 have h1:=h.mono (Nat.le_succ n) (Nat.le_refl D);unfold Srv.write;split;(·exact h1)
 · rename_i c hc;split
   · rename_i r l hs;simp only;have hcf:=h.L9 c (List.mem_of_getElem? hc);have hr:=hcf.buf.slots r (by rw[hs];simp);have hw:=hcf.buf.win;rw[hs]at hw;simp only[List.length_cons]at hw;have hN:=Yp h.net c.id (Cr.qf r) hr.enc
     have h2:=(h1.jh hN).G6 (c:=c) (c':={c with buf:={c.buf with out:=c.buf.out+1,slots:=l},iO:=S.now}) hc rfl (by
       have:=((h1.L9 c (List.mem_of_getElem? hc)).le (N':=S.net.write c.id (Cr.qf r)) (Nat.le_of_eq hN.len.symm) (hN.ins _))
       exact⟨⟨by have:=hcf.buf.out;simp only;omega,⟨by simp only;omega,hw.2⟩,fun x hx=>hcf.buf.slots x (by rw[hs];exact List.mem_cons_of_mem _ hx)⟩,this.2,this.3,this.4,this.5,this.6,this.7,h1.now⟩)
     split;(·exact(h2.jh (BQ h2.net c.id)).drop c.id);(·exact h2)
   · exact h1
theorem dh.mJ:∀(l:List aI) {S:Srv},dh n D S→dh n D (Cr.mJ S l)
  |[],S,h=>h
  |c::l,S,h=>by
    unfold Cr.mJ
    simp only
    split
    · exact dh.mJ l ((h.jh (BQ h.net c.id)).drop c.id)
    · exact dh.mJ l h
theorem dh.tick (h:dh n D S):dh (n+1) D S.tick:=by have h1:=h.mono (Nat.le_succ n) (Nat.le_refl D);have h2:dh (n+1) D {S with now:=S.now+1}:=⟨h1.1,h1.2,h1.3,h1.4,h1.5,h1.6,by have:=h.now;simp only;omega,h1.8,h1.9,h1.10,h1.11,h1.12,h1.13,h1.14,h1.15⟩;exact(dh.mJ _ h2).settle
theorem G9 {α:Type} (p:α→Bool):∀(l:List α) (i:Nat),∀k∈Cr.idxs p i l,i≤k∧∃x,l[k-i]? =some x∧p x=true
  |[],i,k,hk=>by simp[Cr.idxs]at hk
  |x::l,i,k,hk=>by
    have hrec:∀k∈Cr.idxs p (i+1) l,i≤k∧∃y,(x::l)[k-i]? =some y∧p y=true:=fun k hk=>by
      obtain⟨h1,y,h2,h3⟩:=G9 p l (i+1) k hk
      refine⟨by omega,y,?_,h3⟩
      rw[show k-i=(k-(i+1))+1 by omega]
      simpa using h2
    unfold Cr.idxs at hk
    split at hk
    · rename_i hp
      rcases List.mem_cons.1 hk with rfl|hk
      · exact⟨Nat.le_refl _,x,by simp,hp⟩
      · exact hrec k hk
    · exact hrec k hk
def Dl (S:Srv):kT→Prop
  | .accept=>S.mode=0∧S.net.dials≠[]∧(S.ah.length:Int)<S.conf.ah
  | .read j=>∃c,S.ah[j]? =some c∧S.tZ c=true
  | .work i=>i<S.workers.length∧S.kS i=true
  | .write j=>∃c,S.ah[j]? =some c∧c.buf.ready=true
theorem SX (S:Srv):∀k∈S.able,Dl S k:=by intro k hk;unfold Srv.able at hk;(rcases List.mem_append.1 hk with hk|hk);(·split at hk;(·rename_i h;obtain rfl:=List.mem_singleton.1 hk;exact h);(·cases hk));(·(rcases List.mem_append.1 hk with hk|hk);(·obtain⟨j,hj,rfl⟩:=List.mem_map.1 hk;obtain⟨_,c,h1,h2⟩:=G9 _ _ _ j hj;exact⟨c,h1,h2⟩);(·(rcases List.mem_append.1 hk with hk|hk);(·obtain⟨j,hj,rfl⟩:=List.mem_map.1 hk;have:=List.mem_filter.1 hj;exact⟨List.mem_range.1 this.1,this.2⟩);(·obtain⟨j,hj,rfl⟩:=List.mem_map.1 hk;obtain⟨_,c,h1,h2⟩:=G9 _ _ _ j hj;exact⟨c,h1,h2⟩)))
theorem dh.step (h:dh n D S) (hn:n≤50000) {k:kT} (hk:Dl S k):dh (n+1) D (S.step k):=by cases k with|accept=>(exact h.accept hk.2.1)|read j=>(exact h.read j)|work i=>(exact h.work hn hk.2)|write j=>(exact h.write j)
theorem aak (S:Srv) {k:kT} {l:List kT} (h:S.able=k::l) (i:Nat):(k::l).getD i k∈S.able:=by rw[h,List.getD_eq_getElem?_getD];(cases hx:(k::l)[i]? with|none=>(simp)|some x=>(simpa using List.mem_of_getElem? hx))
theorem VF (N:bg) (j:Int):vF N.dial j=vF N j:=by unfold vF bg.at bg.dial;simp only;(by_cases hj:j<0);(·rw[if_pos hj,if_pos hj]);(·rw[if_neg hj,if_neg hj];(by_cases hl:j.toNat<N.ah.length);(·rw[List.getElem?_append_left hl]);(·rw[List.getElem?_append_right (by omega),List.getElem?_eq_none (by omega:N.ah.length≤j.toNat)];(cases hi:([fJ.new]:List fJ)[j.toNat-N.ah.length]? with|none=>(rfl)|some x=>(have:=List.mem_of_getElem? hi;obtain rfl:=List.mem_singleton.1 this;rfl))))
theorem dh.dial (h:dh n D S):dh (n+1) D {S with net:=S.net.dial}:=by have h1:=h.mono (Nat.le_succ n) (Nat.le_refl D);(have hl:S.net.dial.ah.length=S.net.ah.length+1:=by simp[bg.dial]);refine⟨⟨by have:=h.net.ah;simp only[hl];omega,by have:=h.net.dials;simp only[bg.dial,List.length_append,List.length_singleton];omega,fun d hd=>?_,fun c hc=>?_⟩,h1.2,fun c hc=>(h1.L9 c hc).le (by simp only[hl];omega) (by simp only[VF];exact Nat.le_refl _),h1.4,?_,h1.6,h1.7,h1.8,h1.9,h1.10,h1.11,h1.12,h1.13,h1.14,h1.15⟩;(·rw[hl];(rcases List.mem_append.1 hd with hd|hd);(·have:=h.net.lt d hd;omega);(·obtain rfl:=List.mem_singleton.1 hd;omega));(·(rcases List.mem_append.1 hc with hc|hc);(·exact h1.net.each c hc);(·obtain rfl:=List.mem_singleton.1 hc;exact⟨by simp[fJ.new],by simp[fJ.new],by simp[fJ.new],by simp[fJ.new,vz]⟩));(·(show((S.ah.map fun c=>c.id.toNat)++(S.net.dials++[S.net.ah.length])).Nodup);rw[←List.append_assoc];refine List.nodup_append.2 ⟨h.ids,by simp,fun a ha b hb=>?_⟩;obtain rfl:=List.mem_singleton.1 hb;rintro rfl;(rcases List.mem_append.1 ha with ha|ha);(·obtain⟨c,hc,he⟩:=List.mem_map.1 ha;have:=(h.L9 c hc).id;omega);(·have:=h.net.lt _ ha;omega))
theorem dh.send (h:dh n D S) (i:Int) (s:Str):dh (n+1) (D+s.length) {S with net:=(S.net.send i s).1}:=by have h1:=h.mono (Nat.le_succ n) (Nat.le_add_right D s.length);unfold bg.send;split;(·exact h1);(·rename_i c ha;split;(·exact h1);(·have hc:=h.net.each c (at_mem ha);(have ht:vz (c.inp++[s])=vz c.inp+s.length:=by simp[vz]);have hcf:NcF (n+1) (D+s.length) {c with inp:=c.inp++[s],came:=c.came+s.length}:=⟨by have:=hc.1;simp only[List.length_append,List.length_singleton];omega,by have:=hc.2;simp only;omega,by have:=hc.3;simp only;omega,by have:=hc.4;simp only[ht];omega⟩;refine⟨h1.net.set i hcf,h1.2,fun x hx=>?_,h1.4,h1.5,h1.6,h1.7,h1.8,h1.9,h1.10,h1.11,h1.12,h1.13,h1.14,h1.15⟩;have Cc:=h.L9 x hx;(have hin:vF (S.net.set i {c with inp:=c.inp++[s],came:=c.came+s.length}) x.id≤vF S.net x.id+s.length:=by unfold vF;rw[at_set ha];(by_cases hj:x.id=i);(·subst hj;rw[if_pos rfl,ha];simp only[ht];omega);(·rw[if_neg hj];omega));have a:=Cc.id;have f:=Cc.fed;have w:=Cc.wait;have k:=Cc.act;exact⟨Cc.buf.mono (Nat.le_succ n),⟨a.1,by simpa[bg.set]using a.2⟩,⟨f.1,by simp only;omega⟩,by simp only;omega,Cc.cut,Cc.cst,Cc.pend,by omega⟩))
theorem dh.fU (h:dh n D S) (hn:n≤50000) (a:jo):dh (n+1) (D+a.data.length) (S.fU a).1:=by have h1:=h.mono (Nat.le_succ n) (Nat.le_add_right D a.data.length);unfold Srv.fU;split;(·exact h.dial.mono (Nat.le_refl _) (Nat.le_add_right _ _));(·split;(·exact h.send a.conn a.data);(·split;(·exact h1.jh (aah h1.net _));(·split;(·simp only;have hN:=Yq h1.net a.conn;split;(·exact(h1.jh hN).drop _);(·exact h1.jh hN));(·split;(·exact h.tick.mono (Nat.le_refl _) (Nat.le_add_right _ _));(·split;(·split;(·exact h1);(·rename_i k l hk;exact(h.step hn (SX S _ (aak S hk _))).settle.mono (Nat.le_refl _) (Nat.le_add_right _ _)));(·exact h1))))))
end
end Go.Proofs.YthcbjeeajoliiaaGreatDoor
