/- Lemmas for ScriptRuns. -/
import Derived.Maps.Own
import Derived.Carry
import Derived.Laws.MakeOwn
import Derived.WalkSpells
import Derived.Deep.DeepCutAuto
import Derived.Deep.LoopGhost
import Derived.Maps.OwnRows
import Derived.Test.YthcbjeeajoliiaaGreatDoorM03
import Derived.Test.YthcbjeeajoliiaaGreatDoorM04
set_option maxRecDepth 100000
set_option maxHeartbeats 4000000
set_option linter.unusedVariables false
set_option linter.unusedSimpArgs false
namespace Go.Proofs.YthcbjeeajoliiaaGreatDoor
open Go.RowKit
open Tryz
theorem qQ {P:Program} (t e:TypeId) (z:Value) (size bytes:Nat) (ht:P.underlying t=some (.slice e)) (hinfo:(P.info? e).map (fun i=>(i.zero,i.size,i.bytes))=some (some z,size,bytes)) (n:Int) (h0:0≤n) (hb:(bytes:Int)*n≤281474976710656) (h63:n≤9223372036854775807) (w:World):(Instr.makeSlice t (.int .i64 n) (.int .i64 n)).run P w=.ok (.slice (some ⟨w.heap.size,0,none⟩) n.toNat n.toNat) (w.alloc (.cells (madeCells z.cells (n.toNat*size)) e)):=by obtain⟨i,hi,hzz⟩:=Option.map_eq_some_iff.1 hinfo;simp only[Prod.mk.injEq]at hzz;obtain⟨hz,hs,hbb⟩:=hzz;rw[←hs];exact run_make (P:=P) w t e i z ht hi hz .i64 .i64 n n h0 (Int.le_refl _) (by rw[hbb];exact hb) h63
theorem Y9:(prog.info? 111).map (fun i=>(i.zero,i.size,i.bytes))=some (some (.agg #[(.int .i64 0),(.int .i64 0),(.string ⟨#[]⟩),(.string ⟨#[]⟩),(.slice none 0 0),(.string ⟨#[]⟩),(.bool false)]),7,96):=by kernel_rfl
theorem JX (w:World) (x:Int):Calls prog 25 #[.int .i64 x] w fun e w'=>∃g r n:Nat,e=.returned (.pointer (some ⟨g,0,none⟩))∧w.heap.size≤g∧w.heap.size≤r∧(n:Int)=min (max x 1) 16∧aO w' g 98 #[.slice (some ⟨r,0,none⟩) n n,.int .i64 0,.int .i64 0]∧aO w' r 111 (madeCells #[.int .i64 0,.int .i64 0,.string ⟨#[]⟩,.string ⟨#[]⟩,.slice none 0 0,.string ⟨#[]⟩,.bool false] (n*7))∧Fr No w w':=by(have hmk:=fun(n:Int) h0 h1 h2=>qQ (P:=prog) 96 111 _ 7 96 underlying96 Y9 n h0 h1 h2);(have hcase:x<1∨1≤x∧x≤16∨1≤x∧16<x:=by omega);(rcases hcase with hx|⟨hx,hx2⟩|⟨hx,hx2⟩);(·have Wx:=hmk 1 (by omega) (by omega) (by omega);clear hmk;go_enter func25,ntmps25;go_wp2_with fail;go_ret;have hb:=aO.new w 111 (madeCells #[.int .i64 0,.int .i64 0,.string ⟨#[]⟩,.string ⟨#[]⟩,.slice none 0 0,.string ⟨#[]⟩,.bool false] ((1:Int).toNat*7));have hq:=aO.new (w.alloc (.cells (madeCells #[.int .i64 0,.int .i64 0,.string ⟨#[]⟩,.string ⟨#[]⟩,.slice none 0 0,.string ⟨#[]⟩,.bool false] ((1:Int).toNat*7)) 111)) 98 #[.slice (some ⟨w.heap.size,0,none⟩) (1:Int).toNat (1:Int).toNat,.int .i64 0,.int .i64 0];rw[World.size_alloc]at hq;exact⟨w.heap.size+1,w.heap.size,(1:Int).toNat,rfl,by omega,by omega,by omega,hq,hb.alloc _,((Fr.refl _ _).alloc _).alloc _⟩);(·have Wx:=hmk x (by omega) (by omega) (by omega);clear hmk;go_enter func25,ntmps25;go_wp2_with fail;go_ret;have hb:=aO.new w 111 (madeCells #[.int .i64 0,.int .i64 0,.string ⟨#[]⟩,.string ⟨#[]⟩,.slice none 0 0,.string ⟨#[]⟩,.bool false] ((x:Int).toNat*7));have hq:=aO.new (w.alloc (.cells (madeCells #[.int .i64 0,.int .i64 0,.string ⟨#[]⟩,.string ⟨#[]⟩,.slice none 0 0,.string ⟨#[]⟩,.bool false] ((x:Int).toNat*7)) 111)) 98 #[.slice (some ⟨w.heap.size,0,none⟩) (x:Int).toNat (x:Int).toNat,.int .i64 0,.int .i64 0];rw[World.size_alloc]at hq;exact⟨w.heap.size+1,w.heap.size,(x:Int).toNat,rfl,by omega,by omega,by omega,hq,hb.alloc _,((Fr.refl _ _).alloc _).alloc _⟩);(·have Wx:=hmk 16 (by omega) (by omega) (by omega);clear hmk;go_enter func25,ntmps25;go_wp2_with fail;go_ret;have hb:=aO.new w 111 (madeCells #[.int .i64 0,.int .i64 0,.string ⟨#[]⟩,.string ⟨#[]⟩,.slice none 0 0,.string ⟨#[]⟩,.bool false] ((16:Int).toNat*7));have hq:=aO.new (w.alloc (.cells (madeCells #[.int .i64 0,.int .i64 0,.string ⟨#[]⟩,.string ⟨#[]⟩,.slice none 0 0,.string ⟨#[]⟩,.bool false] ((16:Int).toNat*7)) 111)) 98 #[.slice (some ⟨w.heap.size,0,none⟩) (16:Int).toNat (16:Int).toNat,.int .i64 0,.int .i64 0];rw[World.size_alloc]at hq;exact⟨w.heap.size+1,w.heap.size,(16:Int).toNat,rfl,by omega,by omega,by omega,hq,hb.alloc _,((Fr.refl _ _).alloc _).alloc _⟩)
end Go.Proofs.YthcbjeeajoliiaaGreatDoor
