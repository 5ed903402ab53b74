/- TellTimes: for every configuration and every three numbers, the Go function returns true: time, connections and clients that wait are told as they are. The row lists four package-level variables; the card ties them to the program's text. -/
import Derived.Test.YthcbjeeajoliiaaGreatDoorUE
import Derived.Test.YthcbjeeajoliiaaGreatDoorCards
import Derived.Test.YthcbjeeajoliiaaGreatDoorTie
import Derived.ProofKit
import Derived.OpenShut
import Derived.ShutString
import Derived.ChangeOld
import Derived.Below
import Derived.LaidLaws
import Derived.Deep.DeepHandedRow
import Derived.Lib.SmallJoins
import Derived.SevenTiedAt
set_option linter.unusedVariables false
set_option linter.unusedSimpArgs false
namespace Go.Proofs.YthcbjeeajoliiaaGreatDoor
open Go.RowKit Go.Deep Go.ChangeShapes Go.WideShapes Go.ChangeAt Go.Joins
open Cr (Str)

theorem own : ownKnob Tryz.prog.godebug = none := by kernel_rfl
theorem laidOut : laidOutB Tryz.prog = true := by kernel_rfl
theorem cfgCells : Tryz.prog.cellsOf 23 = 7 := by kernel_rfl
theorem intCells : Tryz.prog.cellsOf 3 = 1 := by kernel_rfl
theorem strCells : Tryz.prog.cellsOf 9 = 1 := by kernel_rfl

theorem trod_struct7 {P : Program} {H : Type} {enc : TypeId × Value → H} {w : World} {base : Nat} {spare : Nat → Bool} {held : Bool} {t : TypeId} {f0 f1 f2 f3 f4 f5 f6 : Field} {fuel : Nat} {cs : List Value} {x : DataW H × List MemPlace} (ht : P.underlying t = some (.struct #[f0, f1, f2, f3, f4, f5, f6])) (h : DataW.trod enc P w base spare held fuel t cs = some x) :
    ∃ y0 y1 y2 y3 y4 y5 y6 n, cs.length = P.cellsOf t ∧ DataW.trod enc P w base spare held n f0.type ((cs.drop f0.offset).take (P.cellsOf f0.type)) = some y0 ∧
      DataW.trod enc P w base spare held n f1.type ((cs.drop f1.offset).take (P.cellsOf f1.type)) = some y1 ∧
      DataW.trod enc P w base spare held n f2.type ((cs.drop f2.offset).take (P.cellsOf f2.type)) = some y2 ∧
      DataW.trod enc P w base spare held n f3.type ((cs.drop f3.offset).take (P.cellsOf f3.type)) = some y3 ∧
      DataW.trod enc P w base spare held n f4.type ((cs.drop f4.offset).take (P.cellsOf f4.type)) = some y4 ∧
      DataW.trod enc P w base spare held n f5.type ((cs.drop f5.offset).take (P.cellsOf f5.type)) = some y5 ∧
      DataW.trod enc P w base spare held n f6.type ((cs.drop f6.offset).take (P.cellsOf f6.type)) = some y6 := by
  obtain ⟨xs, n, _, rfl, hl, hlen, hf⟩ := DataW.trod_struct ht h
  match xs, hlen with
  | [y0, y1, y2, y3, y4, y5, y6], _ => exact ⟨y0, y1, y2, y3, y4, y5, y6, n, hl, by simpa using hf 0 f0 rfl, by simpa using hf 1 f1 rfl, by simpa using hf 2 f2 rfl, by simpa using hf 3 f3 rfl, by simpa using hf 4 f4 rfl, by simpa using hf 5 f5 rfl, by simpa using hf 6 f6 rfl⟩

set_option maxRecDepth 100000 in
theorem open_cfg {H : Type} {enc : TypeId × Value → H} {w : World} {base : Nat} {spare : Nat → Bool} {held : Bool} {n : Nat} {cs : List Value} {x : DataW H × List MemPlace} (h : DataW.trod enc Tryz.prog w base spare held n 23 cs = some x) :
    ∃ c : Cr.Cfg, cs = (cfgV c).toList ∧ c.token.length ≤ maxLen := by
  obtain ⟨y0, y1, y2, y3, y4, y5, y6, m, hl, g0, g1, g2, g3, g4, g5, g6⟩ := trod_struct7 Tryz.underlying23 h
  rw [cfgCells] at hl
  match cs, hl with
  | [c0, c1, c2, c3, c4, c5, c6], _ =>
      simp only [intCells, strCells, List.drop_zero, List.drop_succ_cons, List.take_succ_cons, List.take_zero] at g0 g1 g2 g3 g4 g5 g6
      obtain ⟨a0, e0, _, _⟩ := DataW.trod_int Tryz.underlying3 g0
      obtain ⟨a1, e1, _, _⟩ := DataW.trod_int Tryz.underlying3 g1
      obtain ⟨a2, e2, _, _⟩ := DataW.trod_int Tryz.underlying3 g2
      obtain ⟨a3, e3, _, _⟩ := DataW.trod_int Tryz.underlying3 g3
      obtain ⟨a4, e4, _, _⟩ := DataW.trod_int Tryz.underlying3 g4
      obtain ⟨a5, e5, _, _⟩ := DataW.trod_int Tryz.underlying3 g5
      obtain ⟨s, e6, _, hs⟩ := DataW.trod_string Tryz.underlying9 g6
      simp only [List.cons.injEq, and_true] at e0 e1 e2 e3 e4 e5 e6
      subst e0 e1 e2 e3 e4 e5 e6
      refine ⟨⟨a0, a1, a2, a3, a4, a5, s.data.toList⟩, ?_, ?_⟩
      · simp [cfgV]
      · show s.data.toList.length ≤ maxLen
        rw [← Lib.size_eq]; exact hs

theorem okWide_arr {P : Program} {w : World} {r : Reach} {base n : Nat} {t e : TypeId} {v : Value} (ht : P.underlying t = some (.array n e)) (h : Value.okWide P w r base t v) : ∃ cs, v = .agg cs ∧ cs.size = P.cellsOf t := by
  simp only [Value.okWide, ht] at h
  obtain ⟨cs, h1, h2, _⟩ := h
  exact ⟨cs, h1, h2⟩
theorem threeCells : Tryz.prog.cellsOf 47 = 3 := by kernel_rfl
set_option maxRecDepth 100000 in
theorem open_three {H : Type} {enc : TypeId × Value → H} {w : World} {base : Nat} {spare : Nat → Bool} {held : Bool} {n : Nat} {cs : List Value} {x : DataW H × List MemPlace} (h : DataW.trod enc Tryz.prog w base spare held n 47 cs = some x) :
    ∃ a0 a1 a2 : Int, cs = [.int .i64 a0, .int .i64 a1, .int .i64 a2] := by
  obtain ⟨xs, m, rfl, _, hlen, hn, hel⟩ := DataW.trod_array Tryz.underlying47 h
  rw [threeCells] at hlen
  match cs, hlen with
  | [c0, c1, c2], _ =>
    match xs, hn with
    | [y0, y1, y2], _ =>
      have g0 := hel 0 (by omega)
      have g1 := hel 1 (by omega)
      have g2 := hel 2 (by omega)
      simp only [intCells, Nat.mul_one, List.drop_zero, List.drop_succ_cons, List.take_succ_cons, List.take_zero, List.getElem?_cons_zero, List.getElem?_cons_succ] at g0 g1 g2
      obtain ⟨a0, e0, _, _⟩ := DataW.trod_int Tryz.underlying3 g0
      obtain ⟨a1, e1, _, _⟩ := DataW.trod_int Tryz.underlying3 g1
      obtain ⟨a2, e2, _, _⟩ := DataW.trod_int Tryz.underlying3 g2
      simp only [List.cons.injEq, and_true] at e0 e1 e2
      subst e0 e1 e2
      exact ⟨a0, a1, a2, rfl⟩

theorem gHands : Tryz.prog.globalNamed "crossroad/table.Handlers" = some 1 := by kernel_rfl
theorem gHandsType : (Tryz.prog.globals[1]?).map (·.type) = some 230 := by kernel_rfl
theorem arrCells : Tryz.prog.cellsOf 230 = 8 := by kernel_rfl

theorem str_of {s : ByteArray} {l : List UInt8} (h : s.data.toList = l) : Value.string s = .string ⟨l.toArray⟩ := by
  subst h
  simp

set_option maxRecDepth 100000 in
/-- What the row's list gives: the table of handlers lies as it was laid. -/
theorem hands_of {W : World} (h : laidMetH Tryz.prog Rows.tellTimesRow.laid W) : Hands W := by
  rw [MakeChecks.laidMetH_plain _ _ _ (by kernel_rfl)] at h
  obtain ⟨ps, hL, _, hok⟩ := h
  obtain ⟨g0, t0, cs0, f0, p0, q0, hg0, ht0, hv0, hd0, hL1, _⟩ := hL
  obtain ⟨g1, t1, cs1, f1, p1, q1, hg1, ht1, hv1, hd1, hL2, _⟩ := hL1
  obtain ⟨g2, t2, cs2, f2, p2, q2, hg2, ht2, hv2, hd2, hL3, _⟩ := hL2
  obtain ⟨g3, t3, cs3, f3, p3, q3, hg3, ht3, hv3, hd3, _, _⟩ := hL3
  obtain rfl := Option.some.inj (gHands.symm.trans hg3)
  obtain rfl := Option.some.inj (gHandsType.symm.trans ht3)
  obtain ⟨xs, m1, rfl, hx1, hlen, hn3, hel⟩ := DataW.trod_array Tryz.underlying230 hd3
  rw [arrCells] at hlen
  have hcs : cs3.toList = strsV Cr.handlers := by
    obtain ⟨l⟩ := cs3
    simp only at hlen hel ⊢
    match l, hlen with
    | [c0, c1, c2, c3, c4, c5, c6, c7], _ =>
      match xs, hn3 with
      | [y0, y1, y2, y3, y4, y5, y6, y7], _ =>
        have e0 := hel 0 (by omega)
        have e1 := hel 1 (by omega)
        have e2 := hel 2 (by omega)
        have e3 := hel 3 (by omega)
        have e4 := hel 4 (by omega)
        have e5 := hel 5 (by omega)
        have e6 := hel 6 (by omega)
        have e7 := hel 7 (by omega)
        simp only [strCells, Nat.mul_one, List.drop_zero, List.drop_succ_cons, List.take_succ_cons, List.take_zero, List.getElem?_cons_zero, List.getElem?_cons_succ] at e0 e1 e2 e3 e4 e5 e6 e7
        obtain ⟨s0, d0, h0, _⟩ := DataW.trod_string Tryz.underlying9 e0
        obtain ⟨s1, d1, h1, _⟩ := DataW.trod_string Tryz.underlying9 e1
        obtain ⟨s2, d2, h2, _⟩ := DataW.trod_string Tryz.underlying9 e2
        obtain ⟨s3, d3, h3, _⟩ := DataW.trod_string Tryz.underlying9 e3
        obtain ⟨s4, d4, h4, _⟩ := DataW.trod_string Tryz.underlying9 e4
        obtain ⟨s5, d5, h5, _⟩ := DataW.trod_string Tryz.underlying9 e5
        obtain ⟨s6, d6, h6, _⟩ := DataW.trod_string Tryz.underlying9 e6
        obtain ⟨s7, d7, h7, _⟩ := DataW.trod_string Tryz.underlying9 e7
        subst h0 h1 h2 h3 h4 h5 h6 h7
        simp only [List.cons.injEq, and_true] at d0 d1 d2 d3 d4 d5 d6 d7
        subst d0 d1 d2 d3 d4 d5 d6 d7
        simp only [Rows.laid_crossroad_table_Handlers, List.map_cons, List.map_nil, Prod.mk.injEq, DataW.agg.injEq, List.cons.injEq, DataW.lit.injEq, Lit.string.injEq, and_true] at hx1
        obtain ⟨⟨b0, b1, b2, b3, b4, b5, b6, b7⟩, _⟩ := hx1
        rw [str_of b0.symm, str_of b1.symm, str_of b2.symm, str_of b3.symm, str_of b4.symm, str_of b5.symm, str_of b6.symm, str_of b7.symm]
        rfl
  unfold World.var? at hv3
  rw [gHands] at hv3
  simp only [Option.bind_some] at hv3
  split at hv3
  · rename_i cs t fr hw
    simp only [Option.some.injEq] at hv3
    subst hv3
    refine ⟨t, fr, ?_⟩
    rw [hw, ← hcs]
  · cases hv3

/-- The cells that a plain table's datum lays. -/
def litCell : DataW Unit → Value
  | .lit (.int k n) => .int k n
  | .lit (.string s) => .string ⟨s.toArray⟩
  | _ => .bool false
def litCells : DataW Unit → Array Value
  | .agg l => (l.map litCell).toArray
  | _ => #[]
def putTab (h : Array Obj) (g : Nat) (d : DataW Unit) : Array Obj := h.modify g fun
  | .cells _ t frozen => .cells (litCells d) t frozen
  | o => o

/-- A world for the witness: the settled one, the four tables holding what their initialisers lay. -/
noncomputable def laidWorld (os : Os) : World :=
  { World.holding Tryz.prog os ⟨#[], #[], []⟩ with heap := putTab (putTab (putTab (putTab (World.holding Tryz.prog os ⟨#[], #[], []⟩).heap 2 Rows.laid_math_bits_deBruijn32tab) 3 Rows.laid_math_bits_deBruijn64tab) 0 Rows.laid_internal_strconv_uint64pow10) 1 Rows.laid_crossroad_table_Handlers }

/-- The witness's arguments. -/
def wArgs : Array Value := #[.agg #[.int .i64 0, .int .i64 0, .int .i64 0, .int .i64 0, .int .i64 0, .int .i64 0, .string ⟨#[]⟩], .agg #[.int .i64 0, .int .i64 0, .int .i64 0]]
theorem laid_met (os : Os) : laidMet Tryz.prog Rows.tellTimesRow.laid ((laidWorld os).forCall (fun _ _ => 0) ⟨#[], wArgs, []⟩).memory :=
  laidMet_of_run' 8 (by kernel_rfl) (by kernel_rfl)
theorem reads (os : Os) {H : Type} (enc : TypeId × Value → H) : ∃ places, DataW.whole enc Tryz.prog ((laidWorld os).forCall (fun _ _ => 0) ⟨#[], wArgs, []⟩).memory Tryz.f5.params.toList Rows.tellTimesSpec.vars false wArgs.toList 8 =
    some ([.agg [.lit (.int .i64 0), .lit (.int .i64 0), .lit (.int .i64 0), .lit (.int .i64 0), .lit (.int .i64 0), .lit (.int .i64 0), .lit (.string [])], .agg [.lit (.int .i64 0), .lit (.int .i64 0), .lit (.int .i64 0)]], [], places) :=
  ⟨[], by kernel_rfl⟩

set_option maxRecDepth 100000 in
theorem times_contract (H : Type) (enc : TypeId × Value → H) (W : World) (base : Nat) (args : Array Value) (ds gs : List (DataW H)) (before : List MemPlace)
    (hval : ∀ (j : Nat) t v, Tryz.f5.params[j]? = some t → args[j]? = some v → Value.okWide Tryz.prog W .any base t v)
    (hW : DataW.Whole enc Tryz.prog Tryz.f5.params.toList Rows.tellTimesSpec.vars false W args.toList ds gs before) (hL : laidMetH Tryz.prog Rows.tellTimesRow.laid W) :
    Calls Tryz.prog 5 args W fun e W' => ∃ v, e = .returned v ∧ Rows.tellTimesSpec.post enc Tryz.prog Tryz.f5 false true false false W args v W' := by
  have hW' := hW
  obtain ⟨p, q, hA0, hV, rfl, hfz, hnd⟩ := hW
  have hA : DataW.TrodAll enc Tryz.prog W 0 (fun _ => true) true Tryz.f5.params.toList args.toList ds p := hA0
  rw [Tryz.params5] at hA hval
  obtain ⟨v0, vs0, d0, ds0, p0, q0, hargs, rfl, rfl, h0, r0⟩ := trodAll_cons hA
  obtain ⟨v1, vs1, d1, ds1, p1, q1, rfl, rfl, rfl, h1, r1⟩ := trodAll_cons r0
  obtain ⟨rfl, rfl, rfl⟩ := trodAll_nil r1
  obtain rfl : args = #[v0, v1] := by cases args; simp_all
  obtain ⟨rfl, rfl⟩ := trodVars_none hV
  obtain ⟨cs, rfl, hcs⟩ := okWide_struct Tryz.underlying23 (hval 0 23 v0 rfl rfl)
  obtain ⟨ns, rfl, hns⟩ := okWide_arr Tryz.underlying47 (hval 1 47 v1 rfl rfl)
  have k0 := h0
  have k1 := h1
  have lt0 : ∀ x ∈ p0, x.block < W.heap.size := by obtain ⟨m, hm⟩ := k0; exact DataW.trod_lt m _ _ _ hm
  have lt1 : ∀ x ∈ p1, x.block < W.heap.size := by obtain ⟨m, hm⟩ := k1; exact DataW.trod_lt m _ _ _ hm
  obtain ⟨c, hc, htok⟩ : ∃ c : Cr.Cfg, cs = cfgV c ∧ c.token.length ≤ maxLen := by
    obtain ⟨fuel, hf⟩ := h0
    obtain ⟨c, h1, h2⟩ := open_cfg hf
    exact ⟨c, Array.ext' (by simpa [Value.cells] using h1), h2⟩
  subst hc
  obtain ⟨a0, a1, a2, hn⟩ : ∃ a0 a1 a2 : Int, ns = #[.int .i64 a0, .int .i64 a1, .int .i64 a2] := by
    obtain ⟨fuel, hf⟩ := h1
    obtain ⟨a0, a1, a2, h1⟩ := open_three hf
    exact ⟨a0, a1, a2, Array.ext' (by simpa [Value.cells] using h1)⟩
  subst hn
  clear hA0
  refine (times_walk W (hands_of hL) c a0 a1 a2 (by unfold maxLen at htok; exact htok)).mono fun e W' ⟨he, fr⟩ => ?_
  have bel : Below W.heap.size W W' := fr.below (fun _ _ h => h) (Nat.le_refl _)
  subst he
  exact ⟨_, rfl, _, _, _, [], _, [], hW', trodAll_mk1 (shut_bool Tryz.underlying4 _), (trodAll_cons_mk (Below.trod laidOut (by kernel_rfl) (of_decide_eq_true (by kernel_rfl)) k0 bel lt0) (trodAll_cons_mk (Below.trod laidOut (by kernel_rfl) (of_decide_eq_true (by kernel_rfl)) k1 bel lt1) trodAll_mk0)), rfl, bel.frame _, fun h => by cases h⟩

set_option maxRecDepth 100000 in
theorem times_lifted (os : Os) (started : os.Started) (H : Type) (enc : TypeId × Value → H) (F : Stop.Interp) :
    ReturnsInHanded {} Tryz.checked os 5 .any ((OpenSpec.ofChange Rows.tellTimesSpec).preRow enc Tryz.prog Tryz.f5 Rows.tellTimesRow.domain false Rows.tellTimesRow.laid) (((OpenSpec.ofChange Rows.tellTimesSpec).at F).post enc Tryz.prog Tryz.f5 false true false false) := by
  obtain ⟨places, hx⟩ := reads os enc
  refine returnsInHanded_of_row (C := Tryz.checked) (s := OpenSpec.ofChange Rows.tellTimesSpec) own started (by kernel_rfl) Tryz.func5
    (witness_row_at (enc := enc) (C := Tryz.checked) false (laidWorld os) wArgs rfl (by kernel_rfl) (by kernel_rfl) (by kernel_rfl)
      (OpenSpec.preRow_of_cond 8 hx (by kernel_rfl) (fun k hk => by cases hk) (by kernel_rfl) (laid_met os))) ?_
  intro W base args ds gs before hval hW _ _ _ hL _ _
  exact times_contract H enc W base args ds gs before hval hW hL

theorem times_said : Rows.TellTimesSaid :=
  OpenClaim.holds_of_cond 5 Tryz.f5 rfl rfl rfl rfl rfl rfl rfl ⟨rfl, rfl, rfl, rfl, rfl⟩ rfl rfl rfl rfl rfl (by kernel_rfl) Tryz.func5 (by kernel_rfl)
    (of_decide_eq_true (by kernel_rfl)) (by unfold Func.isWrapper; first | (rw [if_pos (by decide +kernel)]; kernel_rfl) | (rw [if_neg (by decide +kernel)]; exact ⟨rfl, rfl⟩))
    (fun os started H enc _ F => by rw [OpenClaim.pre_eq_preRow]; exact times_lifted os started H enc F)

/-- No parameter wants a stand-in; the program's own looks are off. -/
theorem times_plain (f : FuncId) (fn : Func) (hf : Tryz.pinned.checked.prog.funcNamed "crossroad/crossroadlaw19.TellTimes" = some f) (hfn : Tryz.pinned.checked.prog.funcs[f]? = some fn) :
    false = Tryz.pinned.checked.prog.looks [] ∧ ∀ (j : Nat) t, fn.params[j]? = some t → Tryz.pinned.checked.prog.wantsStandIn t = false := by
  obtain rfl : f = 5 := Option.some.inj ((show Tryz.prog.funcNamed "crossroad/crossroadlaw19.TellTimes" = some 5 by kernel_rfl).symm.trans hf) |>.symm
  obtain rfl : fn = Tryz.f5 := (Option.some.inj (Tryz.func5.symm.trans hfn)).symm
  refine ⟨by kernel_rfl, fun j t ht => ?_⟩
  rw [Tryz.params5] at ht
  have hm : t ∈ [23, 47] := by simpa using Array.mem_of_getElem? ht
  have hall : ([23, 47].all fun u => !Tryz.prog.wantsStandIn u) = true := by kernel_rfl
  exact (show Tryz.prog.wantsStandIn t = false by simpa using List.all_eq_true.1 hall t hm)

/-- The tied card of TellTimes. -/
theorem times_card : Rows.TellTimesCardSaid :=
  Claim7.holds_tied_plain_at .later [] _ _ _ _ times_said (fun _ h => by cases h) (by kernel_rfl) (fun _ h => by cases h) tellTimes_row_tie rfl ⟨rfl, rfl⟩ (by kernel_rfl) rfl times_plain (by kernel_rfl)
#print axioms times_card
end Go.Proofs.YthcbjeeajoliiaaGreatDoor
