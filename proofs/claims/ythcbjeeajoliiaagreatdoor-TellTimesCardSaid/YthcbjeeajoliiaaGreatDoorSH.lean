/- The library's: Itoa of small numbers and a Builder's String as the shelf's tool lays them; a Builder's WriteString walked. -/
import Derived.Shelf.Strings.Builder1
import Derived.Shelf.Strings.Builder2
import Derived.Shelf.Strconv.Itoa3
import Derived.Test.YthcbjeeajoliiaaGreatDoorU9
namespace Go.Proofs.YthcbjeeajoliiaaGreatDoor
set_option linter.unusedVariables false
set_option linter.unusedSimpArgs false
open Go.Shelf
def Sh.lays169_ren : Go.Shelf.Ren := ⟨fun | 169 => 40 | n => n, fun | 70 => 73 | 9 => 9 | 0 => 0 | 72 => 75 | 37 => 51 | 127 => 125 | 3 => 3 | 5 => 5 | n => n, fun | n => n⟩
theorem Sh.lays169 : Go.Proofs.Lays.n169 Tryz.prog Sh.lays169_ren := {
  mixed := by kernel_rfl,
  f169 := Tryz.func40.trans (congrArg some (by kernel_rfl)),
  t0 := Tryz.underlying0,
  a0 := Tryz.isAgg0,
  z0 := Tryz.sizeOf0,
  v0 := Tryz.zeroValue0,
  t3 := Tryz.underlying3,
  a3 := Tryz.isAgg3,
  z3 := Tryz.sizeOf3,
  v3 := Tryz.zeroValue3,
  t9 := Tryz.underlying9,
  a9 := Tryz.isAgg9,
  z9 := Tryz.sizeOf9,
  v9 := Tryz.zeroValue9,
  t37 := Tryz.underlying51,
  a37 := Tryz.isAgg51,
  z37 := Tryz.sizeOf51,
  v37 := Tryz.zeroValue51,
  t70 := Tryz.underlying73,
  a70 := Tryz.isAgg73,
  z70 := Tryz.sizeOf73,
  v70 := Tryz.zeroValue73,
  t72 := Tryz.underlying75,
  a72 := Tryz.isAgg75,
  z72 := Tryz.sizeOf75,
  v72 := Tryz.zeroValue75,
  t127 := Tryz.underlying125,
  a127 := Tryz.isAgg125,
  z127 := Tryz.sizeOf125,
  v127 := Tryz.zeroValue125 }
theorem Sh.Extra_169 : Builder.Extra Tryz.prog Sh.lays169_ren where
  sizeBuilder := by kernel_rfl
  liesBuilder := by kernel_rfl
  t5 := Tryz.underlying5
  a5 := Tryz.isAgg5
  z5 := Tryz.sizeOf5
  v5 := Tryz.zeroValue5
  infoByte := by kernel_rfl
  cellsByte := by kernel_rfl
  sizeByte := by kernel_rfl
  neB5 := by decide
open Go.RowKit in
theorem Sh.String_any (B b : Nat) (l : List UInt8) (w : World) (h : Lib.IsBuilder 75 5 B b (Lib.byteCells l) w) (hBw : B ≤ w.heap.size) :
    Calls Tryz.prog 40 #[.pointer (some ⟨b, 0, none⟩)] w fun e w' => e = .returned (.string ⟨l.toArray⟩) ∧ Below B w w' := Any.Builder_String_any Sh.lays169 Sh.Extra_169 B b l w h hBw
def Sh.lays171_ren : Go.Shelf.Ren := ⟨fun | 171 => 37 | 243 => 62 | 246 => 92 | 283 => 109 | 284 => 110 | 285 => 111 | 286 => 112 | 129 => 132 | 317 => 131 | 318 => 133 | 319 => 134 | 320 => 135 | 337 => 170 | 338 => 171 | n => n, fun | 3 => 3 | 9 => 9 | 2 => 2 | 4 => 4 | 171 => 193 | 0 => 0 | 53 => 194 | 37 => 51 | 5 => 5 | 173 => 197 | 212 => 219 | 51 => 220 | 20 => 20 | 213 => 221 | 46 => 87 | 232 => 283 | 233 => 284 | n => n, fun | 17 => 0 | 18 => 2 | 19 => 3 | n => n⟩
theorem Sh.lays171 : Go.Proofs.Lays.n171 Tryz.prog Sh.lays171_ren := {
  mixed := by kernel_rfl,
  f129 := Tryz.func132.trans (congrArg some (by kernel_rfl)),
  f171 := Tryz.func37.trans (congrArg some (by kernel_rfl)),
  f243 := Tryz.func62.trans (congrArg some (by kernel_rfl)),
  f246 := Tryz.func92.trans (congrArg some (by kernel_rfl)),
  f283 := Tryz.func109.trans (congrArg some (by kernel_rfl)),
  f284 := Tryz.func110.trans (congrArg some (by kernel_rfl)),
  f285 := Tryz.func111.trans (congrArg some (by kernel_rfl)),
  f286 := Tryz.func112.trans (congrArg some (by kernel_rfl)),
  f317 := Tryz.func131.trans (congrArg some (by kernel_rfl)),
  f318 := Tryz.func133.trans (congrArg some (by kernel_rfl)),
  f319 := Tryz.func134.trans (congrArg some (by kernel_rfl)),
  f320 := Tryz.func135.trans (congrArg some (by kernel_rfl)),
  f337 := Tryz.func170.trans (congrArg some (by kernel_rfl)),
  f338 := Tryz.func171.trans (congrArg some (by kernel_rfl)),
  t0 := Tryz.underlying0,
  a0 := Tryz.isAgg0,
  z0 := Tryz.sizeOf0,
  v0 := Tryz.zeroValue0,
  t2 := Tryz.underlying2,
  a2 := Tryz.isAgg2,
  z2 := Tryz.sizeOf2,
  v2 := Tryz.zeroValue2,
  t3 := Tryz.underlying3,
  a3 := Tryz.isAgg3,
  z3 := Tryz.sizeOf3,
  v3 := Tryz.zeroValue3,
  t4 := Tryz.underlying4,
  a4 := Tryz.isAgg4,
  z4 := Tryz.sizeOf4,
  v4 := Tryz.zeroValue4,
  t5 := Tryz.underlying5,
  a5 := Tryz.isAgg5,
  z5 := Tryz.sizeOf5,
  v5 := Tryz.zeroValue5,
  t9 := Tryz.underlying9,
  a9 := Tryz.isAgg9,
  z9 := Tryz.sizeOf9,
  v9 := Tryz.zeroValue9,
  t20 := Tryz.underlying20,
  a20 := Tryz.isAgg20,
  z20 := Tryz.sizeOf20,
  v20 := Tryz.zeroValue20,
  t37 := Tryz.underlying51,
  a37 := Tryz.isAgg51,
  z37 := Tryz.sizeOf51,
  v37 := Tryz.zeroValue51,
  t46 := Tryz.underlying87,
  a46 := Tryz.isAgg87,
  z46 := Tryz.sizeOf87,
  v46 := Tryz.zeroValue87,
  t51 := Tryz.underlying220,
  a51 := Tryz.isAgg220,
  z51 := Tryz.sizeOf220,
  v51 := Tryz.zeroValue220,
  t53 := Tryz.underlying194,
  a53 := Tryz.isAgg194,
  z53 := Tryz.sizeOf194,
  v53 := Tryz.zeroValue194,
  t171 := Tryz.underlying193,
  a171 := Tryz.isAgg193,
  z171 := Tryz.sizeOf193,
  v171 := Tryz.zeroValue193,
  t173 := Tryz.underlying197,
  a173 := Tryz.isAgg197,
  z173 := Tryz.sizeOf197,
  v173 := Tryz.zeroValue197,
  t212 := Tryz.underlying219,
  a212 := Tryz.isAgg219,
  z212 := Tryz.sizeOf219,
  v212 := Tryz.zeroValue219,
  t213 := Tryz.underlying221,
  a213 := Tryz.isAgg221,
  z213 := Tryz.sizeOf221,
  t232 := Tryz.underlying283,
  a232 := Tryz.isAgg283,
  z232 := Tryz.sizeOf283,
  v232 := Tryz.zeroValue283,
  t233 := Tryz.underlying284,
  a233 := Tryz.isAgg284,
  z233 := Tryz.sizeOf284,
  v233 := Tryz.zeroValue284,
  g17 := by kernel_rfl,
  g18 := by kernel_rfl,
  g19 := by kernel_rfl }
open Go.RowKit Go.Sort Go.Lib in
theorem Sh.Itoa_small (i : Nat) (hi : i < 100) (w : World) :
    Calls Tryz.prog 37 #[.int .i64 i] w fun e w' => e = .returned (.string ⟨(Lib.decDigits i).toArray⟩) ∧ w' = w := Any.strconv_Itoa_small Sh.lays171 i hi w

section
open Go.RowKit
theorem sizeBuilder : (Tryz.prog.info? 75).map (·.size) = some 2 := by kernel_rfl
theorem liesBuilder : liesAt Tryz.prog Tryz.prog.depth 75 (2 / Tryz.prog.cellsOf 75) 0 75 1 = true := by kernel_rfl
theorem infoByte : (Tryz.prog.info? 5).map (fun i => (i.zero, i.size, i.bytes)) = some (some (.int .u8 0), 1, 1) := by kernel_rfl

set_option maxRecDepth 100000 in
theorem copyCheck_used (b : Nat) (w : World) (h0 : w.cell? ⟨b, 0, none⟩ = some (.pointer (some ⟨b, 0, none⟩))) :
    Calls Tryz.prog 61 #[.pointer (some ⟨b, 0, none⟩)] w fun e w' => e = .returned (.tuple #[]) ∧ w' = w := by
  obtain ⟨j, hj, _⟩ := Option.map_eq_some_iff.1 sizeBuilder
  have hp := Lib.run_neq_ptr_same (P := Tryz.prog) w ⟨b, 0, none⟩ Tryz.underlying73 hj
  go_enter Tryz.func61, Tryz.ntmps61
  go_wp2_with fail
  go_end0
  exact ⟨rfl, rfl⟩

set_option maxRecDepth 100000 in
theorem copyCheck_fresh (b : Nat) (w : World) (h0 : w.cell? ⟨b, 0, none⟩ = some (.pointer none)) (hsh : w.shape? b = some (75, 2)) (hfz : w.frozen? ⟨b, 0, none⟩ = false) :
    Calls Tryz.prog 61 #[.pointer (some ⟨b, 0, none⟩)] w fun e w' => e = .returned (.tuple #[]) ∧ w' = w.setCell ⟨b, 0, none⟩ (.pointer (some ⟨b, 0, none⟩)) := by
  obtain ⟨j, hj, hjs⟩ := Option.map_eq_some_iff.1 sizeBuilder
  go_enter Tryz.func61, Tryz.ntmps61
  go_wp2
  rw [Lib.run_to_unsafe w ⟨b, 0, none⟩ Tryz.underlying73 Tryz.underlying171 hj (by rw [hjs]; decide) hsh (Nat.zero_lt_succ 1)]
  simp only [Result.andThen]
  rw [Oper.upon_value]
  go_wp2
  rw [run_callFunc_extern Tryz.func91 (by kernel_rfl) (by kernel_rfl) (by kernel_rfl) (e := Extern.AbiNoEscape.same) (by kernel_rfl)]
  rw [Lib.run_noEscape]
  simp only [Result.andThen]
  rw [Oper.upon_value]
  go_wp2
  rw [Lib.run_from_unsafe w ⟨b, 0, none⟩ Tryz.underlying171 Tryz.underlying73 hj hsh liesBuilder]
  simp only [Result.andThen]
  rw [Oper.upon_value]
  go_wp2
  go_end0
  exact ⟨rfl, rfl⟩

theorem copyCheck_any (B b : Nat) (bs : List Value) (w : World) (h : Lib.IsBuilder 75 5 B b bs w) :
    Calls Tryz.prog 61 #[.pointer (some ⟨b, 0, none⟩)] w fun e w' => e = .returned (.tuple #[]) ∧ Lib.BuilderAt 75 5 B b (.pointer (some ⟨b, 0, none⟩)) bs w' ∧ Fr (fun k => B ≤ k) w w' := by
  rcases h with h | h
  · refine (copyCheck_fresh b w h.cell0 h.shape h.frozen0).mono ?_
    rintro e w' ⟨rfl, rfl⟩
    exact ⟨rfl, h.used _, (Fr.refl _ _).setCell (fun _ => h.1) _⟩
  · refine (copyCheck_used b w h.cell0).mono ?_
    rintro e w' ⟨rfl, rfl⟩
    exact ⟨rfl, h, Fr.refl _ _⟩

set_option maxRecDepth 100000 in
theorem writeString_any (B b : Nat) (bs : List Value) (l : List UInt8) (w : World) (h : Lib.IsBuilder 75 5 B b bs w) (hlen : bs.length + l.length ≤ 140737488355328) (hB : B ≤ w.heap.size) :
    Calls Tryz.prog 36 #[.pointer (some ⟨b, 0, none⟩), .string ⟨l.toArray⟩] w fun e w' => (∃ v, e = .returned v) ∧ Lib.IsBuilder 75 5 B b (bs ++ byV l) w' ∧ Fr (fun k => B ≤ k) w w' := by
  have HC := Lib.hid (copyCheck_any B b bs w h)
  clear h
  go_enter Tryz.func36, Tryz.ntmps36
  go_wp2_with (go_at_call 61; refine HC.out.mono (Hid.out ?_))
  refine Lib.hid ?_
  rintro e w1 ⟨rfl, ⟨hBb, v, hbk, hown, hne⟩, hf1⟩
  have hbk' : Blk w1 b 75 #[.pointer (some ⟨b, 0, none⟩), v] := hbk
  obtain ⟨A, c, rfl, hc, _⟩ := own_form hown
  have c1 : w1.cell? ⟨b, 1, none⟩ = some (.slice A bs.length c) := hbk'.cell 1
  have hs1 := hf1.size
  go_wp2_with (at_builtin; go_must (refine wpList_app_str _ rfl (.tmp 12) (.tmp 13) _ _ rfl B 5 Tryz.underlying51 Tryz.underlying9 infoByte (.slice A bs.length c) bs.length bs rfl ?a0 l rfl ?a1 ?a2 ?_))
  case a0 => exact hown
  case a1 => exact hlen
  case a2 => omega
  intro v' w2 hown' hf2
  obtain ⟨A', c', rfl, hc', _⟩ := own_form hown'
  have hb2 := hbk'.off hf2 (Off.own hown (by decide))
  have d1 : w2.cell? ⟨b, 1, none⟩ = some (.slice A bs.length c) := hb2.cell 1
  have f1 : w2.frozen? ⟨b, 1, none⟩ = false := hb2.frozen 1
  have hb3 := hb2.set_ 1 (.slice A' (bs.length + l.length) c')
  have hf3 : Fr (fun i => i = b) w2 (w2.setCell ⟨b, 1, none⟩ (.slice A' (bs.length + l.length) c')) := by
    refine Fr.setCell (Fr.refl _ _) ?_ _
    intro _; rfl
  go_wp2_with fail
  go_ret2
  have hown3 := own_off hown' hf3 (Off.one hb2 (by decide))
  refine ⟨⟨_, rfl⟩, .inr ⟨hBb, _, hb3, by simpa using hown3, fun he => ?_⟩, ?_⟩
  · obtain ⟨_, cs, hB⟩ := own_blk hown3 he
    exact hB.ne_ hb3 (by decide) rfl
  · exact (hf1.trans (TyS.base (TyS.own hf2 hown (ts := [5]) (by simp))) (fun _ _ h => h)).trans (hf3.mono (fun _ _ h => by rw [h]; exact hBb)) (fun _ _ h => h)
end
end Go.Proofs.YthcbjeeajoliiaaGreatDoor
