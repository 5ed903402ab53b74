/- Lemmas for ScriptRuns. -/
import Derived.BigQuiet
import Derived.Deep.QuietTactic
import Derived.Test.YthcbjeeajoliiaaGreatDoorM07
set_option maxRecDepth 100000
set_option maxHeartbeats 4000000
set_option linter.unusedVariables false
set_option linter.unusedSimpArgs false
namespace Go.Proofs.YthcbjeeajoliiaaGreatDoor
open Go.RowKit
open Tryz
theorem bn (w:World) (n:Nat):Fr No w (w.drewN n):=(Fr.refl No w).drewN n
theorem at_in (w:World) (gN i n c gr off:Nat) (p:Value) (h0:w.cell? ⟨gN,0,none⟩=some (.slice (some ⟨gr,off,none⟩) n c)) (hi:i<n) (h1:w.cell? ⟨gr,off+i,none⟩=some p):Calls prog 34 #[.pointer (some ⟨gN,0,none⟩),.int .i64 i] w fun e w'=>e=.returned p∧w'=w:=by(have hi':(i:Int)<(n:Int):=by omega);go_enter func34,ntmps34;go_wp2_with fail;go_ret;exact⟨rfl,rfl⟩
def Xn (t c:Bool):Array Value:=#[.slice none 0 0,.int .i64 0,.bool false,.bool false,.bool t,.bool c,.string ⟨#[]⟩]
theorem Xo (w:World) (g:Nat) (A:Option Addr) (n c:Nat) (hc:w.cell? ⟨g,1,none⟩=some (.slice A n c)):Calls prog 49 #[.pointer (some ⟨g,0,none⟩)] w fun e w'=>e=.returned (.int .i64 n)∧w'=w:=by go_enter func49,ntmps49;go_wp2_with fail;go_ret;exact⟨rfl,rfl⟩
theorem Zx (w:World) (g:Nat) (a b:Int) (h1:w.cell? ⟨g,1,none⟩=some (.int .i64 a)) (h2:w.cell? ⟨g,2,none⟩=some (.int .i64 b)) (hs:IntKind.i64.wrap (a-b)=a-b):Calls prog 45 #[.pointer (some ⟨g,0,none⟩)] w fun e w'=>e=.returned (.int .i64 (a-b))∧∃m,w'=w.drewN m:=by go_enter func45,ntmps45;go_wp2_with fail;go_quiet (fail);go_wp2_with fail;go_ret;exact⟨rfl,_,rfl⟩
def wE:Array Value:=#[.string ⟨#[]⟩,.slice none 0 0,.slice none 0 0,.int .i64 0,.string ⟨#[]⟩,.string ⟨#[]⟩,.slice none 0 0,.string ⟨#[]⟩,.bool false,.int .i64 0,.int .i64 0,.pointer none,.int .i64 0,.bool false]
theorem Qb (w:World):Calls prog 69 #[] w fun e w'=>e=.returned (.pointer (some ⟨w.heap.size,0,none⟩))∧w'=w.alloc (.cells wE 146):=by go_enter func69,ntmps69;go_wp2_with fail;go_ret;exact⟨rfl,rfl⟩
theorem Ul:(prog.info? 166).map (fun i=>(i.zero,i.size,i.bytes))=some (some (.pointer none),1,8):=by kernel_rfl
def Um (r n:Nat):Array Value:=#[.slice (some ⟨r,0,none⟩) n n,.int .i64 0,.int .i64 0]
theorem F8 (w:World) (x:Int):Calls prog 68 #[.int .i64 x] w fun e w'=>∃g r n:Nat,e=.returned (.pointer (some ⟨g,0,none⟩))∧w.heap.size≤g∧w.heap.size≤r∧(n:Int)=min (max x 1) 8∧aO w' g 141 (Um r n)∧aO w' r 166 (madeCells #[.pointer none] n)∧Fr No w w':=by(have hmk:=fun(n:Int) h0 h1 h2=>qQ (P:=prog) 139 166 _ 1 8 underlying139 Ul n h0 h1 h2);(have key:∀m:Int,aO ((w.alloc (.cells (madeCells #[.pointer none] m.toNat) 166)).alloc (.cells (Um w.heap.size m.toNat) 141)) (w.heap.size+1) 141 (Um w.heap.size m.toNat)∧aO ((w.alloc (.cells (madeCells #[.pointer none] m.toNat) 166)).alloc (.cells (Um w.heap.size m.toNat) 141)) w.heap.size 166 (madeCells #[.pointer none] m.toNat):=by intro m;have hq:=aO.new (w.alloc (.cells (madeCells #[.pointer none] m.toNat) 166)) 141 (Um w.heap.size m.toNat);rw[World.size_alloc]at hq;exact⟨hq,(aO.new w _ _).alloc _⟩);(have hcase:x<1∨1≤x∧x≤8∨1≤x∧8<x:=by omega);(rcases hcase with hx|⟨hx,hx2⟩|⟨hx,hx2⟩);(·have Wx:=hmk 1 (by omega) (by omega) (by omega);clear hmk;have HK:=ae (key 1);go_enter func68,ntmps68;go_wp2_with fail;go_ret;exact⟨w.heap.size+1,w.heap.size,(1:Int).toNat,rfl,by omega,by omega,by omega,HK.out.1,HK.out.2,((Fr.refl _ _).alloc _).alloc _⟩);(·have Wx:=hmk x (by omega) (by omega) (by omega);clear hmk;have HK:=ae (key x);go_enter func68,ntmps68;go_wp2_with fail;go_ret;exact⟨w.heap.size+1,w.heap.size,x.toNat,rfl,by omega,by omega,by omega,HK.out.1,HK.out.2,((Fr.refl _ _).alloc _).alloc _⟩);(·have Wx:=hmk 8 (by omega) (by omega) (by omega);clear hmk;have HK:=ae (key 8);go_enter func68,ntmps68;go_wp2_with fail;go_ret;exact⟨w.heap.size+1,w.heap.size,(8:Int).toNat,rfl,by omega,by omega,by omega,HK.out.1,HK.out.2,((Fr.refl _ _).alloc _).alloc _⟩)
end Go.Proofs.YthcbjeeajoliiaaGreatDoor
