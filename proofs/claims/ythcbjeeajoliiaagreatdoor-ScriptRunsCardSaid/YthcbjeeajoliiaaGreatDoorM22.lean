/- Lemmas for ScriptRuns. -/
import Derived.Laws.ComplexArith
import Derived.Laws.Cover3
import Derived.Laws.Entries
import Derived.Test.YthcbjeeajoliiaaGreatDoorM12
set_option maxRecDepth 100000
set_option maxHeartbeats 4000000
set_option linter.unusedVariables false
set_option linter.unusedSimpArgs false
namespace Go.Proofs.YthcbjeeajoliiaaGreatDoor
open Go.RowKit
open Cr (Str fO)
def fb (n:Int):Nat:=floatOfInt .f64 n
def nz:Nat:=9223372036854775808
def Jj:List (Nat×Int):=[(fb 1,1),(fb (-1),-1),(fb 0,0),(nz,0)]
def Xe:Bool:=(List.range 81).all fun i=>Jj.all fun d=>floatBits .add .f64 (fb ((i:Int)-40)) d.1==some (fb ((i:Int)-40+d.2))&&floatBits .sub .f64 (fb ((i:Int)-40)) d.1==some (fb ((i:Int)-40-d.2))
theorem Ui:Xe=true:=by kernel_rfl
def Be:List (Nat×Nat×Int×Int):=[(fb 1,fb 0,1,0),(fb 1,nz,1,0),(fb (-1),fb 0,-1,0),(fb (-1),nz,-1,0),(fb 0,fb 1,0,1),(nz,fb 1,0,1),(fb 0,fb (-1),0,-1),(nz,fb (-1),0,-1)]
def RH (r:Option (Nat×Nat)) (x y:Int):Bool:=match r with
  |some p=>Be.contains (p.1,p.2,x,y)
  |none=>false
def Xf:Bool:=Be.all fun d=>RH (cMulBits d.1 d.2.1 0 (fb 1)) (-d.2.2.2) d.2.2.1&&RH (cMulBits d.1 d.2.1 0 (fb (-1))) d.2.2.2 (-d.2.2.1)
theorem Uj:Xf=true:=by kernel_rfl
def Xg:Bool:=(List.range 83).all fun i=>floatToIntVal .f64 (fb ((i:Int)-41)) .i64==some ((i:Int)-41)
theorem Uk:Xg=true:=by kernel_rfl
theorem Xh:floatToIntVal .f64 nz .i64=some 0:=by kernel_rfl
theorem Xi:fb 1=4607182418800017408:=by kernel_rfl
theorem fb_neg:fb (-1)=13830554455654793216:=by kernel_rfl
theorem Zu:fb 0=0:=by kernel_rfl
structure uh (n:Nat) (W:fO) (tr ti:Nat):Prop where
  at_: -(n:Int)≤W.ax∧W.ax≤n∧-(n:Int)≤W.ay∧W.ay≤n
  to_:(tr,ti,W.tx,W.ty)∈Be
theorem uh.start:uh 0 ⟨0,0,1,0⟩ (fb 1) (fb 0):=⟨by simp,by simp[Be]⟩
theorem yc:∀d∈Be,(d.1,d.2.2.1)∈Jj∧(d.2.1,d.2.2.2)∈Jj∧-1≤d.2.2.1∧d.2.2.1≤1∧-1≤d.2.2.2∧d.2.2.2≤1:=by decide+kernel
theorem Xj {x:Int} {d:Nat×Int} (h0: -40≤x) (h1:x≤40) (hd:d∈Jj):floatBits .add .f64 (fb x) d.1=some (fb (x+d.2))∧floatBits .sub .f64 (fb x) d.1=some (fb (x-d.2)):=by have h:=Ui;unfold Xe at h;rw[List.all_eq_true]at h;have h2:=h (x+40).toNat (by rw[List.mem_range];omega);rw[List.all_eq_true]at h2;have h3:=h2 d hd;rw[Bool.and_eq_true,beq_iff_eq,beq_iff_eq]at h3;rw[show(((x+40).toNat:Nat):Int)-40=x by omega]at h3;exact h3
theorem F6 {x:Int} (h0: -41≤x) (h1:x≤41):floatToIntVal .f64 (fb x) .i64=some x:=by have h:=Uk;unfold Xg at h;rw[List.all_eq_true]at h;have h2:=h (x+41).toNat (by rw[List.mem_range];omega);rw[beq_iff_eq,show(((x+41).toNat:Nat):Int)-41=x by omega]at h2;exact h2
theorem RI {d:Nat×Int} (hd:d∈Jj):floatToIntVal .f64 d.1 .i64=some d.2:=by simp only[Jj,List.mem_cons,List.not_mem_nil,or_false]at hd;(rcases hd with rfl|rfl|rfl|rfl);(·exact F6 (x:=1) (by omega) (by omega));(·exact F6 (x:= -1) (by omega) (by omega));(·exact F6 (x:=0) (by omega) (by omega));(·exact Xh)
theorem abB {d:Nat×Nat×Int×Int} (hd:d∈Be):(∃p,cMulBits d.1 d.2.1 0 (fb 1)=some p∧(p.1,p.2,-d.2.2.2,d.2.2.1)∈Be)∧∃p,cMulBits d.1 d.2.1 0 (fb (-1))=some p∧(p.1,p.2,d.2.2.2,-d.2.2.1)∈Be:=by have h:=Uj;unfold Xf at h;rw[List.all_eq_true]at h;have h2:=h d hd;rw[Bool.and_eq_true]at h2;(have key:∀r x y,RH r x y=true→∃p,r=some p∧(p.1,p.2,x,y)∈Be:=by intro r x y h;unfold RH at h;(cases r with|none=>(cases h)|some p=>(exact⟨p,rfl,by simpa using h⟩)));exact⟨key _ _ _ h2.1,key _ _ _ h2.2⟩
theorem Zv {n:Nat} {W:fO} {tr ti:Nat} (h:uh n W tr ti) (hn:n≤40):cSumBits .add .f64 (fb W.ax) (fb W.ay) tr ti=some (fb (W.ax+W.tx),fb (W.ay+W.ty))∧cSumBits .sub .f64 (fb W.ax) (fb W.ay) tr ti=some (fb (W.ax-W.tx),fb (W.ay-W.ty)):=by obtain⟨h1,h2,h3,h4⟩:=h.at_;obtain⟨d1,d2,_⟩:=yc _ h.to_;have s1:=Xj (x:=W.ax) (by omega) (by omega) d1;have s2:=Xj (x:=W.ay) (by omega) (by omega) d2;simp only at s1 s2;unfold cSumBits;rw[s1.1,s1.2,s2.1,s2.2];exact⟨rfl,rfl⟩
section
open Tryz
theorem zT (P:Program) (w:World) (a:Addr) (m:Mode) (k:FloatKind) (x y:Nat):(store a (.complex k x y) m).run P w=stored P w a (.complex k x y) m:=run_store P w a _ m rfl
attribute [local go_sem] zT
def nH (W:fO) (tr ti:Nat):Value:=.agg #[.complex .f64 (fb W.ax) (fb W.ay),.complex .f64 tr ti]
def yP:Value:=.agg #[.complex .f64 0 0,.complex .f64 0 0]
theorem ND (w:World):Calls prog 218 #[] w fun e w'=>e=.returned (nH ⟨0,0,1,0⟩ (fb 1) (fb 0))∧Fr No w w':=by have hres:Tryz.f218.results=#[.cell 0 278]:=rfl;unfold nH;rw[Xi,Zu];have f:Fr No w (w.alloc (.cells #[.complex .f64 0 0,.complex .f64 4607182418800017408 0] 278)):=(Fr.refl _ _).alloc _;have hY:=aO.new w 278 #[.complex .f64 0 0,.complex .f64 4607182418800017408 0];have r0:=hY.cell 0;have r1:=hY.cell 1;simp only[bC]at r0 r1;go_enter func218,ntmps218;go_wp2_with fail;exact bodyPost_ret (v:=.agg #[.complex .f64 0 0,.complex .f64 4607182418800017408 0]) (by simp[results,hres,go_sem,r0,r1]) rfl ⟨rfl,f⟩
theorem fO.step_eq (W:fO) (c:UInt8):W.step c=if c=70 then some ⟨W.ax+W.tx,W.ay+W.ty,W.tx,W.ty⟩else if c=66 then some ⟨W.ax-W.tx,W.ay-W.ty,W.tx,W.ty⟩else if c=76 then some ⟨W.ax,W.ay,-W.ty,W.tx⟩else if c=82 then some ⟨W.ax,W.ay,W.ty,-W.tx⟩else none:=rfl
theorem RJ (c:UInt8) (k:Nat) (hk:k<256):((c.toNat:Int)==(k:Int))=decide (c=UInt8.ofNat k):=by(by_cases h:c=UInt8.ofNat k);(·subst h;(have:(UInt8.ofNat k).toNat=k:=by simp;omega);rw[this];simp);(·(have:¬c.toNat=k:=fun e=>h (by rw[←e];simp));simp[h];omega)
theorem KL (w:World) (W:fO) (tr ti n:Nat) (h:uh n W tr ti) (hn:n≤39) (c:UInt8):Calls prog 219 #[nH W tr ti,.int .u8 c.toNat] w fun e w'=>Fr No w w'∧((W.step c=none∧e=.returned (.tuple #[yP,.bool false]))∨∃W' tr' ti',W.step c=some W'∧uh (n+1) W' tr' ti'∧e=.returned (.tuple #[nH W' tr' ti',.bool true])):=by have hres:Tryz.f219.results=#[.cell 4 278,.tmp 5]:=rfl;obtain⟨s1,s2⟩:=Zv h (by omega);obtain⟨⟨⟨p1,p2⟩,m1,m2⟩,⟨⟨q1,q2⟩,m3,m4⟩⟩:=abB h.to_;simp only at m1 m2 m3 m4;rw[Xi]at m1;rw[fb_neg]at m3;have HS:=ae (fO.step_eq W c);obtain⟨R,hR⟩:=ak (W.step c);rw[hR]at HS⊢;clear hR;have hd:=yc _ h.to_;have H:=ae (And.intro h hd);have t0:=RJ c 70 (by omega);have t1:=RJ c 66 (by omega);have t2:=RJ c 76 (by omega);have t3:=RJ c 82 (by omega);obtain⟨x,hx⟩:∃x:Int,(c.toNat:Int)=x:=⟨_,rfl⟩;rw[hx]at t0 t1 t2 t3⊢;obtain⟨A,hA⟩:=ak (fb W.ax);obtain⟨B,hB⟩:=ak (fb W.ay);have HAB:=ae (And.intro hA hB);unfold nH yP;rw[hA,hB]at s1 s2⊢;clear hx hA hB h hd;(have a1:=fun W=>run_complex_sum (P:=prog) W .add (.inl rfl) 276 .f64 A B tr ti _ _ s1);(have a2:=fun W=>run_complex_sum (P:=prog) W .sub (.inr rfl) 276 .f64 A B tr ti _ _ s2);(have a3:=fun W=>run_complex_mul (P:=prog) W 276 tr ti 0 4607182418800017408 _ _ m1);(have a4:=fun W=>run_complex_mul (P:=prog) W 276 tr ti 0 13830554455654793216 _ _ m3);have HM:=ae (And.intro m2 m4);clear s1 s2 m1 m2 m3 m4;(by_cases h0:c=70);(·(have e0:(x==70)=true:=by have:=t0;simp[h0]at this;simpa using this);have HR:=ae (show R=some ⟨W.ax+W.tx,W.ay+W.ty,W.tx,W.ty⟩by rw[HS.out];simp[h0]);clear t0 t1 t2 t3 HS;go_enter func219,ntmps219;go_wp2_with fail;refine bodyPost_ret (v:=.tuple #[.agg #[.complex .f64 (fb (W.ax+W.tx)) (fb (W.ay+W.ty)),.complex .f64 tr ti],.bool true]) (by simp[results,hres,go_sem]) rfl ⟨?_,.inr ⟨_,HR.out,tr,ti,?_,?_⟩⟩;(·exact(((Fr.refl _ _).alloc _).alloc _));(·obtain⟨hw,hd⟩:=H.out;obtain⟨g1,g2,g3,g4⟩:=hw.at_;obtain⟨_,_,d1,d2,d3,d4⟩:=hd;exact⟨by refine⟨?_,?_,?_,?_⟩<;>simp only[Int.natCast_add,Int.natCast_one]<;>omega,hw.to_⟩);(·rfl));(have n0:(x==70)=false:=by have:=t0;simp[h0]at this;simpa using this);(by_cases h1:c=66);(·(have e1:(x==66)=true:=by have:=t1;simp[h1]at this;simpa using this);have HR:=ae (show R=some ⟨W.ax-W.tx,W.ay-W.ty,W.tx,W.ty⟩by rw[HS.out];simp[h1]);clear t0 t1 t2 t3 HS;go_enter func219,ntmps219;go_wp2_with fail;refine bodyPost_ret (v:=.tuple #[.agg #[.complex .f64 (fb (W.ax-W.tx)) (fb (W.ay-W.ty)),.complex .f64 tr ti],.bool true]) (by simp[results,hres,go_sem]) rfl ⟨?_,.inr ⟨_,HR.out,tr,ti,?_,?_⟩⟩;(·exact(((Fr.refl _ _).alloc _).alloc _));(·obtain⟨hw,hd⟩:=H.out;obtain⟨g1,g2,g3,g4⟩:=hw.at_;obtain⟨_,_,d1,d2,d3,d4⟩:=hd;exact⟨by refine⟨?_,?_,?_,?_⟩<;>simp only[Int.natCast_add,Int.natCast_one]<;>omega,hw.to_⟩);(·rfl));(have n1:(x==66)=false:=by have:=t1;simp[h1]at this;simpa using this);(by_cases h2:c=76);(·(have e2:(x==76)=true:=by have:=t2;simp[h2]at this;simpa using this);have HR:=ae (show R=some ⟨W.ax,W.ay,-W.ty,W.tx⟩by rw[HS.out];simp[h2]);clear t0 t1 t2 t3 HS;go_enter func219,ntmps219;go_wp2_with fail;refine bodyPost_ret (v:=.tuple #[.agg #[.complex .f64 (A) (B),.complex .f64 p1 p2],.bool true]) (by simp[results,hres,go_sem]) rfl ⟨?_,.inr ⟨_,HR.out,p1,p2,?_,?_⟩⟩;(·exact(((Fr.refl _ _).alloc _).alloc _));(·obtain⟨hw,hd⟩:=H.out;obtain⟨g1,g2,g3,g4⟩:=hw.at_;obtain⟨_,_,d1,d2,d3,d4⟩:=hd;exact⟨by refine⟨?_,?_,?_,?_⟩<;>simp only[Int.natCast_add,Int.natCast_one]<;>omega,HM.out.1⟩);(·rw[←HAB.out.1,←HAB.out.2]));(have n2:(x==76)=false:=by have:=t2;simp[h2]at this;simpa using this);(by_cases h3:c=82);(·(have e3:(x==82)=true:=by have:=t3;simp[h3]at this;simpa using this);have HR:=ae (show R=some ⟨W.ax,W.ay,W.ty,-W.tx⟩by rw[HS.out];simp[h3]);clear t0 t1 t2 t3 HS;go_enter func219,ntmps219;go_wp2_with fail;refine bodyPost_ret (v:=.tuple #[.agg #[.complex .f64 (A) (B),.complex .f64 q1 q2],.bool true]) (by simp[results,hres,go_sem]) rfl ⟨?_,.inr ⟨_,HR.out,q1,q2,?_,?_⟩⟩;(·exact(((Fr.refl _ _).alloc _).alloc _));(·obtain⟨hw,hd⟩:=H.out;obtain⟨g1,g2,g3,g4⟩:=hw.at_;obtain⟨_,_,d1,d2,d3,d4⟩:=hd;exact⟨by refine⟨?_,?_,?_,?_⟩<;>simp only[Int.natCast_add,Int.natCast_one]<;>omega,HM.out.2⟩);(·rw[←HAB.out.1,←HAB.out.2]));(have n3:(x==82)=false:=by have:=t3;simp[h3]at this;simpa using this);have HR:=ae (show R=none by rw[HS.out];simp[h0,h1,h2,h3]);clear t0 t1 t2 t3 HS;go_enter func219,ntmps219;go_wp2_with fail;exact bodyPost_ret (v:=.tuple #[.agg #[.complex .f64 0 0,.complex .f64 0 0],.bool false]) (by simp[results,hres,go_sem]) rfl ⟨(((Fr.refl _ _).alloc _).alloc _),.inl ⟨HR.out,rfl⟩⟩
end
end Go.Proofs.YthcbjeeajoliiaaGreatDoor
