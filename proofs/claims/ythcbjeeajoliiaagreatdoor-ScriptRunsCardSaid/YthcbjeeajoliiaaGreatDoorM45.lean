/- Script.Run does each act: the law ScriptRuns, for all servers and acts that its guards let in; no further conditions. -/
import Derived.Test.YthcbjeeajoliiaaGreatDoorCards
import Derived.Test.YthcbjeeajoliiaaGreatDoorTie
import Derived.ProofKit
import Derived.OpenShut
import Derived.ShutString
import Derived.ChangeOld
import Derived.Below
import Derived.LaidLaws
import Derived.Deep.Slices
import Derived.Deep.DeepHandedRow
import Derived.Lib.SmallJoins
import Derived.SevenTiedAt
import Derived.Test.YthcbjeeajoliiaaGreatDoorM44
set_option maxRecDepth 100000
set_option maxHeartbeats 4000000
set_option linter.unusedVariables false
set_option linter.unusedSimpArgs false
namespace Go.Proofs.YthcbjeeajoliiaaGreatDoor
open Go.RowKit Go.Deep Go.ChangeShapes Go.WideShapes Go.ChangeAt Go.Joins
open Cr (Str jo)
theorem own:ownKnob Tryz.prog.godebug=none:=by kernel_rfl
theorem laidOut:laidOutB Tryz.prog=true:=by kernel_rfl
theorem YQ:Tryz.prog.cellsOf 23=7:=by kernel_rfl
theorem intCells:Tryz.prog.cellsOf 3=1:=by kernel_rfl
theorem strCells:Tryz.prog.cellsOf 9=1:=by kernel_rfl
theorem LW {P:Program} {H:Type} {enc:TypeId×Value→H} {w:World} {base:Nat} {spare:Nat→Bool} {held:Bool} {t:TypeId} {f0 f1 f2 f3 f4 f5 f6:Field} {fuel:Nat} {cs:List Value} {x:DataW H×List MemPlace} (ht:P.underlying t=some (.struct #[f0,f1,f2,f3,f4,f5,f6])) (h:DataW.trod enc P w base spare held fuel t cs=some x):∃y0 y1 y2 y3 y4 y5 y6 n,cs.length=P.cellsOf t∧DataW.trod enc P w base spare held n f0.type ((cs.drop f0.offset).take (P.cellsOf f0.type))=some y0∧DataW.trod enc P w base spare held n f1.type ((cs.drop f1.offset).take (P.cellsOf f1.type))=some y1∧DataW.trod enc P w base spare held n f2.type ((cs.drop f2.offset).take (P.cellsOf f2.type))=some y2∧DataW.trod enc P w base spare held n f3.type ((cs.drop f3.offset).take (P.cellsOf f3.type))=some y3∧DataW.trod enc P w base spare held n f4.type ((cs.drop f4.offset).take (P.cellsOf f4.type))=some y4∧DataW.trod enc P w base spare held n f5.type ((cs.drop f5.offset).take (P.cellsOf f5.type))=some y5∧DataW.trod enc P w base spare held n f6.type ((cs.drop f6.offset).take (P.cellsOf f6.type))=some y6:=by obtain⟨xs,n,_,rfl,hl,hlen,hf⟩:=DataW.trod_struct ht h;(match xs,hlen with|[y0,y1,y2,y3,y4,y5,y6],_=>(exact⟨y0,y1,y2,y3,y4,y5,y6,n,hl,by simpa using hf 0 f0 rfl,by simpa using hf 1 f1 rfl,by simpa using hf 2 f2 rfl,by simpa using hf 3 f3 rfl,by simpa using hf 4 f4 rfl,by simpa using hf 5 f5 rfl,by simpa using hf 6 f6 rfl⟩))
theorem YR {H:Type} {enc:TypeId×Value→H} {w:World} {base:Nat} {spare:Nat→Bool} {held:Bool} {n:Nat} {cs:List Value} {x:DataW H×List MemPlace} (h:DataW.trod enc Tryz.prog w base spare held n 23 cs=some x):∃c:Cr.Wn,cs=(ab8 c).toList∧c.token.length≤maxLen:=by obtain⟨y0,y1,y2,y3,y4,y5,y6,m,hl,g0,g1,g2,g3,g4,g5,g6⟩:=LW Tryz.underlying23 h;rw[YQ]at hl;(match cs,hl with|[c0,c1,c2,c3,c4,c5,c6],_=>(simp only[intCells,strCells,List.drop_zero,List.drop_succ_cons,List.take_succ_cons,List.take_zero]at g0 g1 g2 g3 g4 g5 g6;obtain⟨a0,e0,_,_⟩:=DataW.trod_int Tryz.underlying3 g0;obtain⟨a1,e1,_,_⟩:=DataW.trod_int Tryz.underlying3 g1;obtain⟨a2,e2,_,_⟩:=DataW.trod_int Tryz.underlying3 g2;obtain⟨a3,e3,_,_⟩:=DataW.trod_int Tryz.underlying3 g3;obtain⟨a4,e4,_,_⟩:=DataW.trod_int Tryz.underlying3 g4;obtain⟨a5,e5,_,_⟩:=DataW.trod_int Tryz.underlying3 g5;obtain⟨s,e6,_,hs⟩:=DataW.trod_string Tryz.underlying9 g6;simp only[List.cons.injEq,and_true]at e0 e1 e2 e3 e4 e5 e6;subst e0 e1 e2 e3 e4 e5 e6;refine⟨⟨a0,a1,a2,a3,a4,a5,s.data.toList⟩,?_,?_⟩;(·simp[ab8]);(·(show s.data.toList.length≤maxLen);rw[←Lib.size_eq];exact hs)))
instance:Inhabited jo:=⟨⟨0,0,0,[]⟩⟩
theorem Pq:Tryz.prog.cellsOf 29=4:=by kernel_rfl
section
variable {H:Type} {enc:TypeId×Value→H} {w:World} {base:Nat} {spare:Nat→Bool} {held:Bool}
theorem YS {n:Nat} {cs:List Value} {x:DataW H×List MemPlace} (h:DataW.trod enc Tryz.prog w base spare held n 29 cs=some x):∃a:jo,cs=xu a∧a.data.length≤maxLen:=by obtain⟨y0,y1,y2,y3,m,rfl,hl,h0,h1,h2,h3⟩:=trod_struct4 Tryz.underlying29 h;rw[Pq]at hl;(match cs,hl with|[c0,c1,c2,c3],_=>((have i1:Tryz.prog.cellsOf 3=1:=by kernel_rfl);(have i2:Tryz.prog.cellsOf 9=1:=by kernel_rfl);simp only[i1,i2,List.drop_zero,List.drop_succ_cons,List.take_succ_cons,List.take_zero]at h0 h1 h2 h3;obtain⟨a0,e0,_,_⟩:=DataW.trod_int Tryz.underlying3 h0;obtain⟨a1,e1,_,_⟩:=DataW.trod_int Tryz.underlying3 h1;obtain⟨a2,e2,_,_⟩:=DataW.trod_int Tryz.underlying3 h2;obtain⟨s,e3,_,hs⟩:=DataW.trod_string Tryz.underlying9 h3;simp only[List.cons.injEq,and_true]at e0 e1 e2 e3;subst e0 e1 e2 e3;refine⟨⟨a0,a1,a2,s.data.toList⟩,?_,?_⟩;(·simp[xu]);(·(show s.data.toList.length≤maxLen);rw[←Lib.size_eq];exact hs)))
theorem VY {fuel:Nat} {cs:List Value} {x:DataW H×List MemPlace} (h:DataW.trod enc Tryz.prog w base spare held fuel 27 cs=some x):∃A c l,cs=[.slice A (List.length l) c]∧l.length≤c∧c≤maxLen∧Rd (fun k=>k<w.heap.size) w A (kP l)∧∀a∈l,a.data.length≤maxLen:=by
 (rcases open_slice Tryz.underlying27 h with⟨rfl,rfl⟩|⟨ad,len,cap,m,n,D,Pl,rfl,hb,hl,hm,hmm,rfl,hx⟩);(·exact⟨none,0,[],rfl,Nat.le_refl _,Nat.zero_le _,Rd.nil _ _ _,by simp⟩)
 · (have hlm:len≤m:=by rw[hmm];split<;>omega);rw[Pq]at hx
   obtain⟨F,hF⟩:=choose_lt (α:=jo) (n:=len) (p:=fun i a=>w.cells? base (ad.add (i*4)) 4=some (xu a)∧a.data.length≤maxLen) (fun i hi=>by
     obtain⟨cs',h1,h2⟩:=hx i (by omega)
     obtain⟨a,rfl,ha⟩:=YS h2
     exact⟨a,h1,ha⟩)
   refine⟨some ad,cap,(List.range len).map F,by simp,by simpa using hl,hm,?_,?_⟩;(·intro hne;(have hcell:∀i,i<len→∀j,j<4→w.cell? (ad.add (i*4+j))=(xu (F i))[j]? :=fun i hi j hj=>by have:=(World.cells?_some (hF i hi).1).2.2 j hj;rw[add_add]at this;exact this);(have hpos:0<len:=by(rcases Nat.eq_zero_or_pos len with h0|h0);(·subst h0;simp[kP]at hne);(·exact h0));(have hs:ad.spot=none:=by have h0:=hcell 0 hpos 0 (by omega);simp only[Nat.zero_mul,Nat.zero_add,Addr.add,if_true]at h0;exact World.cell?_spot (v:=.int .i64 (F 0).kind) (by rw[h0];rfl));refine⟨ad,rfl,?_,hs,?_⟩;(·have h0:=hcell 0 hpos 0 (by omega);simp only[Nat.zero_mul,Nat.zero_add,Addr.add,if_true]at h0;exact World.block_lt_of_cell? w ad (u:=.int .i64 (F 0).kind) (by rw[h0];rfl));(·intro j u hu;rw[←zF ad hs];have hj:=(List.getElem?_eq_some_iff.1 hu).1;rw[qN]at hj;simp only[List.length_map,List.length_range]at hj;(have hq:j/4<len:=by omega);have e:=flat_get xu 4 (fun _=>rfl) ((List.range len).map F) (j/4) (F (j/4)) (by simp[hq]) (j%4) (by omega);have hc:=hcell (j/4) hq (j%4) (by omega);rw[show j/4*4+j%4=j from by omega]at e hc;rw[hc,←e];exact hu));(·intro a ha;obtain⟨i,hi,rfl⟩:=List.mem_map.1 ha;exact(hF i (List.mem_range.1 hi)).2)
end
theorem YT : Tryz.prog.globalNamed "crossroad/table.Handlers" = some 1 := by kernel_rfl
theorem Q8:(Tryz.prog.globals[1]?).map (·.type)=some 230:=by kernel_rfl
theorem YU:Tryz.prog.cellsOf 230=8:=by kernel_rfl
theorem yD {s:ByteArray} {l:List UInt8} (h:s.data.toList=l):Value.string s=.string ⟨l.toArray⟩:=by subst h;simp
theorem af5 : Tryz.prog.globalNamed "internal/strconv.uint64pow10" = some 0 := by kernel_rfl
theorem YV:(Tryz.prog.globals[0]?).map (·.type)=some 219:=by kernel_rfl
theorem af6 : Tryz.prog.globalNamed "math/bits.deBruijn64tab" = some 3 := by kernel_rfl
theorem YW:(Tryz.prog.globals[3]?).map (·.type)=some 284:=by kernel_rfl
theorem ET {P:Program} {H:Type} {enc:TypeId×Value→H} {w:World} {base:Nat} {spare:Nat→Bool} {held:Bool} {k:IntKind} {n fuel:Nat} {e t:TypeId} {cs:List Value} {x:DataW H×List MemPlace} (ht:P.underlying t=some (.array n e)) (he:P.underlying e=some (.int k)) (hc:P.cellsOf e=1) (ha:P.cellsOf t=n) (l:List Int) (hn:l.length=n) (h:DataW.trod enc P w base spare held fuel t cs=some x) (hx:x.1=.agg (l.map fun z=>.lit (.int k z))):cs=l.map (Value.int k):=by obtain⟨xs,m,_,ex,hlen,hxs,hel⟩:=DataW.trod_array ht h;rw[ha]at hlen;rw[ex]at hx;simp only[DataW.agg.injEq]at hx;apply List.ext_getElem?;intro i;(by_cases hi:i<n);(·have h1:=hel i hi;rw[hc,Nat.mul_one]at h1;obtain⟨y,hy⟩:∃y,xs[i]? =some y:=⟨xs[i],by simp[hxs,hi]⟩;rw[hy]at h1;obtain⟨z,e1,e2,_⟩:=DataW.trod_int he h1;(have e3:(xs.map (·.1))[i]? =(l.map fun z=>DataW.lit (.int k z))[i]? :=by rw[hx]);(have e4:cs[i]? =some (.int k z):=by have:=congrArg (fun q=>q[0]?) e1;simpa[List.getElem?_take,List.getElem?_drop]using this);obtain⟨z1,hz⟩:∃z1,l[i]? =some z1:=⟨l[i],by simp[hn,hi]⟩;rw[List.getElem?_map,List.getElem?_map,hy,hz,e2]at e3;simp only[Option.map_some,Option.some.injEq,DataW.lit.injEq,Lit.int.injEq,true_and]at e3;rw[e4,List.getElem?_map,hz,e3];rfl);(·rw[List.getElem?_eq_none (by omega),List.getElem?_eq_none (by simp;omega)])
def Q9:List Int:=match (Rows.laid_math_bits_deBruijn64tab:DataW Unit)with
  | .agg l=>l.map fun d=>match d with
    | .lit (.int _ n)=>n
    |_=>0
  |_=>[]
theorem YX {W:World} (h:laidMetH Tryz.prog Rows.scriptRunsRow.laid W):Laid (fun _=>aT) W:=by rw[MakeChecks.laidMetH_plain _ _ _ (by kernel_rfl)]at h;obtain⟨ps,hL,_,hok⟩:=h;obtain⟨g0,t0,cs0,f0,p0,q0,hg0,ht0,hv0,hd0,hL1,_⟩:=hL;obtain⟨g1,t1,cs1,f1,p1,q1,hg1,ht1,hv1,hd1,hL2,_⟩:=hL1;obtain⟨g2,t2,cs2,f2,p2,q2,hg2,ht2,hv2,hd2,hL3,_⟩:=hL2;obtain⟨g3,t3,cs3,f3,p3,q3,hg3,ht3,hv3,hd3,_,_⟩:=hL3;(have abg:Tabs W:=by obtain rfl:=Option.some.inj (af5.symm.trans hg2);obtain rfl:=Option.some.inj (YV.symm.trans ht2);have hcs:cs2.toList=Lib.pow10Tab.map (fun z=>Value.int .u64 z):=ET Tryz.underlying219 Tryz.underlying194 (by kernel_rfl) (by kernel_rfl) Lib.pow10Tab rfl hd2 (by kernel_rfl);unfold World.var? at hv2;rw[af5]at hv2;simp only[Option.bind_some]at hv2;split at hv2;(·rename_i cs t fr hw;simp only[Option.some.injEq]at hv2;subst hv2;refine⟨t,fr,?_⟩;rw[hw,←hcs]);(·cases hv2));(have af7:Qd W:=by obtain rfl:=Option.some.inj (af6.symm.trans hg1);obtain rfl:=Option.some.inj (YW.symm.trans ht1);have hcs:cs1.toList=Q9.map (fun z=>Value.int .u8 z):=ET Tryz.underlying284 Tryz.underlying5 (by kernel_rfl) (by kernel_rfl) Q9 (by kernel_rfl) hd1 (by kernel_rfl);unfold World.var? at hv1;rw[af6]at hv1;simp only[Option.bind_some]at hv1;split at hv1;(·rename_i cs t fr hw;simp only[Option.some.injEq]at hv1;subst hv1;refine⟨t,fr,_,hw,?_⟩;rw[←Array.getElem?_toList,hcs];rfl);(·cases hv1));refine⟨abg,af7,?_,rfl,rfl,rfl⟩;clear abg af7;obtain rfl:=Option.some.inj (YT.symm.trans hg3);obtain rfl:=Option.some.inj (Q8.symm.trans ht3);obtain⟨xs,m1,rfl,hx1,hlen,hn3,hel⟩:=DataW.trod_array Tryz.underlying230 hd3;rw[YU]at hlen;(have hcs:cs3.toList=aY Cr.handlers:=by obtain⟨l⟩:=cs3;simp only at hlen hel⊢;(match l,hlen with|[c0,c1,c2,c3,c4,c5,c6,c7],_=>(match xs,hn3 with|[y0,y1,y2,y3,y4,y5,y6,y7],_=>(have e0:=hel 0 (by omega);have e1:=hel 1 (by omega);have e2:=hel 2 (by omega);have e3:=hel 3 (by omega);have e4:=hel 4 (by omega);have e5:=hel 5 (by omega);have e6:=hel 6 (by omega);have e7:=hel 7 (by omega);simp only[strCells,Nat.mul_one,List.drop_zero,List.drop_succ_cons,List.take_succ_cons,List.take_zero,List.getElem?_cons_zero,List.getElem?_cons_succ]at e0 e1 e2 e3 e4 e5 e6 e7;obtain⟨s0,d0,h0,_⟩:=DataW.trod_string Tryz.underlying9 e0;obtain⟨s1,d1,h1,_⟩:=DataW.trod_string Tryz.underlying9 e1;obtain⟨s2,d2,h2,_⟩:=DataW.trod_string Tryz.underlying9 e2;obtain⟨s3,d3,h3,_⟩:=DataW.trod_string Tryz.underlying9 e3;obtain⟨s4,d4,h4,_⟩:=DataW.trod_string Tryz.underlying9 e4;obtain⟨s5,d5,h5,_⟩:=DataW.trod_string Tryz.underlying9 e5;obtain⟨s6,d6,h6,_⟩:=DataW.trod_string Tryz.underlying9 e6;obtain⟨s7,d7,h7,_⟩:=DataW.trod_string Tryz.underlying9 e7;subst h0 h1 h2 h3 h4 h5 h6 h7;simp only[List.cons.injEq,and_true]at d0 d1 d2 d3 d4 d5 d6 d7;subst d0 d1 d2 d3 d4 d5 d6 d7;simp only[Rows.laid_crossroad_table_Handlers,List.map_cons,List.map_nil,Prod.mk.injEq,DataW.agg.injEq,List.cons.injEq,DataW.lit.injEq,Lit.string.injEq,and_true]at hx1;obtain⟨⟨b0,b1,b2,b3,b4,b5,b6,b7⟩,_⟩:=hx1;rw[yD b0.symm,yD b1.symm,yD b2.symm,yD b3.symm,yD b4.symm,yD b5.symm,yD b6.symm,yD b7.symm];rfl))));unfold World.var? at hv3;rw[YT]at hv3;simp only[Option.bind_some]at hv3;split at hv3;(·rename_i cs t fr hw;simp only[Option.some.injEq]at hv3;subst hv3;refine⟨t,fr,?_⟩;rw[hw,←hcs]);(·cases hv3)
def aaC:DataW Unit→Value
  | .lit (.int k n)=>.int k n
  | .lit (.string s)=>.string ⟨s.toArray⟩
  |_=>.bool false
def YY:DataW Unit→Array Value
  | .agg l=>(l.map aaC).toArray
  |_=>#[]
def LX (h:Array Obj) (g:Nat) (d:DataW Unit):Array Obj:=h.modify g fun
  | .cells _ t frozen=>.cells (YY d) t frozen
  |o=>o
noncomputable def laidWorld (os:Os):World:=
  {World.holding Tryz.prog os ⟨#[],#[],[]⟩with heap:=LX (LX (LX (LX (World.holding Tryz.prog os ⟨#[],#[],[]⟩).heap 2 Rows.laid_math_bits_deBruijn32tab) 3 Rows.laid_math_bits_deBruijn64tab) 0 Rows.laid_internal_strconv_uint64pow10) 1 Rows.laid_crossroad_table_Handlers}
def Tf:Array Value:=#[.agg #[.int .i64 0,.int .i64 0,.int .i64 0,.int .i64 0,.int .i64 0,.int .i64 0,.string ⟨#[]⟩],.slice none 0 0]
theorem laid_met (os:Os):laidMet Tryz.prog Rows.scriptRunsRow.laid ((laidWorld os).forCall (fun _ _=>0) ⟨#[],Tf,[]⟩).memory:=
  laidMet_of_run' 8 (by kernel_rfl) (by kernel_rfl)
theorem reads (os:Os) {H:Type} (enc:TypeId×Value→H):∃places,DataW.whole enc Tryz.prog ((laidWorld os).forCall (fun _ _=>0) ⟨#[],Tf,[]⟩).memory Tryz.f4.params.toList Rows.scriptRunsSpec.vars false Tf.toList 8=
    some ([.agg [.lit (.int .i64 0),.lit (.int .i64 0),.lit (.int .i64 0),.lit (.int .i64 0),.lit (.int .i64 0),.lit (.int .i64 0),.lit (.string [])],.nil],[],places):=
  ⟨[],by kernel_rfl⟩
theorem Jb (H:Type) (enc:TypeId×Value→H) (W:World) (base:Nat) (args:Array Value) (ds gs:List (DataW H)) (before:List MemPlace) (hval:∀(j:Nat) t v,Tryz.f4.params[j]? =some t→args[j]? =some v→Value.okWide Tryz.prog W .any base t v) (hW:DataW.Whole enc Tryz.prog Tryz.f4.params.toList Rows.scriptRunsSpec.vars false W args.toList ds gs before) (hL:laidMetH Tryz.prog Rows.scriptRunsRow.laid W):Calls Tryz.prog 4 args W fun e W'=>∃v,e=.returned v∧Rows.scriptRunsSpec.post enc Tryz.prog Tryz.f4 false true false false W args v W':=by have hW':=hW;obtain⟨p,q,hA0,hV,rfl,hfz,hnd⟩:=hW;have hA:=hA0;rw[Tryz.params4]at hA hval;obtain⟨v0,vs0,d0,ds0,p0,q0,hargs,rfl,rfl,h0,r0⟩:=trodAll_cons hA;obtain⟨v1,vs1,d1,ds1,p1,q1,rfl,rfl,rfl,h1,r1⟩:=trodAll_cons r0;obtain⟨rfl,rfl,rfl⟩:=trodAll_nil r1;(obtain rfl:args=#[v0,v1]:=by cases args;simp_all);obtain⟨rfl,rfl⟩:=trodVars_none hV;obtain⟨cs,rfl,hcs⟩:=okWide_struct Tryz.underlying23 (hval 0 23 v0 rfl rfl);obtain⟨a0,len0,cap0,rfl⟩:=okWide_slice Tryz.underlying27 (hval 1 27 v1 rfl rfl);have k0:=h0;have k1:=h1;(have lt0:∀x∈p0,x.block<W.heap.size:=by obtain⟨m,hm⟩:=k0;exact DataW.trod_lt m _ _ _ hm);(have lt1:∀x∈p1,x.block<W.heap.size:=by obtain⟨m,hm⟩:=k1;exact DataW.trod_lt m _ _ _ hm);(obtain⟨c,hc,htok⟩:∃c:Cr.Wn,cs=ab8 c∧c.token.length≤maxLen:=by obtain⟨fuel,hf⟩:=h0;obtain⟨c,h1,h2⟩:=YR hf;exact⟨c,Array.ext' (by simpa[Value.cells]using h1),h2⟩);subst hc;(obtain⟨l,e0,hl0,hc0,hr0,hd0⟩:∃l,len0=List.length l∧l.length≤cap0∧cap0≤maxLen∧Rd (fun k=>k<W.heap.size) W a0 (kP l)∧∀a∈l,a.data.length≤maxLen:=by obtain⟨fuel,hf⟩:=h1;obtain⟨A,c,l,hcs,h1,h2,h3,h4⟩:=VY hf;simp[Value.cells]at hcs;obtain⟨rfl,rfl,rfl⟩:=hcs;exact⟨l,rfl,h1,h2,h3,h4⟩);subst e0;clear hA0;(refine(VX W (YX hL) c a0 cap0 l hr0 (by unfold maxLen at hc0;omega) (fun a ha=>by have:=hd0 a ha;unfold maxLen at this;exact this) (by unfold maxLen at htok;exact htok)).mono fun e W' ⟨he,fr⟩=>?_);have bel:=fr.below ai (Nat.le_refl _);subst he;exact⟨_,rfl,_,_,_,[],_,[],hW',trodAll_mk1 (shut_bool Tryz.underlying4 _),(trodAll_cons_mk (Below.trod laidOut (by kernel_rfl) (of_decide_eq_true (by kernel_rfl)) k0 bel lt0) (trodAll_cons_mk (Below.trod laidOut (by kernel_rfl) (of_decide_eq_true (by kernel_rfl)) k1 bel lt1) trodAll_mk0)),rfl,bel.frame _,fun h=>by cases h⟩
theorem Pv (os:Os) (started:os.Started) (H:Type) (enc:TypeId×Value→H) (F:Stop.Interp):ReturnsInHanded {} Tryz.checked os 4 .any ((OpenSpec.ofChange Rows.scriptRunsSpec).preRow enc Tryz.prog Tryz.f4 Rows.scriptRunsRow.domain false Rows.scriptRunsRow.laid) (((OpenSpec.ofChange Rows.scriptRunsSpec).at F).post enc Tryz.prog Tryz.f4 false true false false):=by
 obtain⟨places,hx⟩:=reads os enc
 refine returnsInHanded_of_row (C:=Tryz.checked) (s:=OpenSpec.ofChange Rows.scriptRunsSpec) own started (by kernel_rfl) Tryz.func4
   (witness_row_at (enc:=enc) (C:=Tryz.checked) false (laidWorld os) Tf rfl (by kernel_rfl) (by kernel_rfl) (by kernel_rfl)
     (OpenSpec.preRow_of_cond 8 hx (by kernel_rfl) (fun k hk=>by cases hk) (by kernel_rfl) (laid_met os))) ?_
 intro W base args ds gs before hval hW _ _ _ hL _ _;exact Jb H enc W base args ds gs before hval hW hL
theorem VZ:Rows.ScriptRunsSaid:=
  OpenClaim.holds_of_cond 4 Tryz.f4 rfl rfl rfl rfl rfl rfl rfl ⟨rfl,rfl,rfl,rfl,rfl⟩ rfl rfl rfl rfl rfl (by kernel_rfl) Tryz.func4 (by kernel_rfl)
    (of_decide_eq_true (by kernel_rfl)) (by unfold Func.isWrapper;first|(rw[if_pos (by decide+kernel)];kernel_rfl)|(rw[if_neg (by decide+kernel)];exact⟨rfl,rfl⟩))
    (fun os started H enc _ F=>by rw[OpenClaim.pre_eq_preRow];exact Pv os started H enc F)
theorem Rf (f : FuncId) (fn : Func) (hf : Tryz.pinned.checked.prog.funcNamed "crossroad/crossroadlaw18.ScriptRuns" = some f) (hfn : Tryz.pinned.checked.prog.funcs[f]? = some fn) : false = Tryz.pinned.checked.prog.looks [] ∧ ∀ (j : Nat) t, fn.params[j]? = some t → Tryz.pinned.checked.prog.wantsStandIn t = false := by (obtain rfl : f = 4 := Option.some.inj ((show Tryz.prog.funcNamed "crossroad/crossroadlaw18.ScriptRuns" = some 4 by kernel_rfl).symm.trans hf) |>.symm); obtain rfl : fn = Tryz.f4 := (Option.some.inj (Tryz.func4.symm.trans hfn)).symm; refine ⟨by kernel_rfl, fun j t ht => ?_⟩; rw [Tryz.params4] at ht; (have hm : t ∈ [23, 27] := by simpa using Array.mem_of_getElem? ht); (have hall : ([23, 27].all fun u => !Tryz.prog.wantsStandIn u) = true := by kernel_rfl); exact (show Tryz.prog.wantsStandIn t = false by simpa using List.all_eq_true.1 hall t hm)
theorem runs_card:Rows.ScriptRunsCardSaid:=
  Claim7.holds_tied_plain_at .later [] _ _ _ _ VZ (fun _ h=>by cases h) (by kernel_rfl) (fun _ h=>by cases h) scriptRuns_row_tie rfl ⟨rfl,rfl⟩ (by kernel_rfl) rfl Rf (by kernel_rfl)
#print axioms runs_card
end Go.Proofs.YthcbjeeajoliiaaGreatDoor
