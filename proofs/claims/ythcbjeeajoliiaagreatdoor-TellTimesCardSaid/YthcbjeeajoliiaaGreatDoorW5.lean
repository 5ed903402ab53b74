/- path.Shape; table.Handler. -/
import Derived.Test.YthcbjeeajoliiaaGreatDoorW4
import Derived.Laws.Rows
import Derived.Laws.Concat
set_option linter.unusedVariables false
set_option linter.unusedSimpArgs false
namespace Go.Proofs.YthcbjeeajoliiaaGreatDoor
open Go.RowKit
open Cr (Str)

def shapeOne (x : Str) : Str := if Cr.kindOf x = 0 then 47 :: x else if Cr.kindOf x = 1 then [47, 58] else [47, 42]
theorem shape_append : ∀ (l m : List Str), Cr.shape (l ++ m) = Cr.shape l ++ Cr.shape m
  | [], m => by simp [Cr.shape]
  | x :: l, m => by simp [Cr.shape, shape_append l m]
theorem shape_take (l : List Str) (k : Nat) (x : Str) (h : l[k]? = some x) : Cr.shape (l.take (k + 1)) = Cr.shape (l.take k) ++ shapeOne x := by
  rw [List.take_add_one, h, shape_append]
  simp [Cr.shape, shapeOne]
theorem shapeOne_le (x : Str) : (shapeOne x).length ≤ x.length + 2 := by
  unfold shapeOne
  split
  · simp
  · split <;> simp
theorem shape_le : ∀ (l : List Str) (B : Nat), (∀ x ∈ l, x.length ≤ B) → (Cr.shape l).length ≤ l.length * (B + 2)
  | [], B, h => by simp [Cr.shape]
  | x :: l, B, h => by
    have h1 := shape_le l B (fun y hy => h y (List.mem_cons_of_mem _ hy))
    have h2 := shapeOne_le x
    have h3 := h x (List.mem_cons_self ..)
    have e : Cr.shape (x :: l) = shapeOne x ++ Cr.shape l := by simp [Cr.shape, shapeOne]
    rw [e, List.length_append, List.length_cons, Nat.add_mul]
    omega
theorem str_add (a b : Str) : (⟨a.toArray⟩ : ByteArray) ++ ⟨b.toArray⟩ = ⟨(a ++ b).toArray⟩ := by
  apply ByteArray.ext
  simp

theorem run_cat {P : Program} (a b : Str) (h : a.length + b.length ≤ 9223372036854775807) (w : World) : (Op.stringOp .add ⟨a.toArray⟩ ⟨b.toArray⟩).run P w = .ok (.string ⟨(a ++ b).toArray⟩) w := by
  rw [run_string_add_sum w _ _ (by rw [str_size, str_size]; omega), str_add]

set_option maxRecDepth 100000 in
theorem shape_any (P : Nat → Prop) (w : World) (A : Option Addr) (c : Nat) (l : List Str) (hr : Rd P w A (strsV l)) (hl : l.length ≤ 1000) (hx : ∀ x ∈ l, x.length ≤ 1000000) :
    Calls Tryz.prog 96 #[.slice A l.length c] w fun e w' => e = .returned (.string ⟨(Cr.shape l).toArray⟩) ∧ Fr No w w' := by
  have hl' : (l.length : Int) ≤ 1000 := by omega
  have HX := Lib.hid hx
  clear hx
  go_enter Tryz.func96, Tryz.ntmps96
  go_wp2_with fail
  go_loopg [3, 8] l.length (fun gm r i wr => ∃ k : Nat, k + gm = l.length ∧ i = .int .i64 k ∧ r = .string ⟨(Cr.shape (l.take k)).toArray⟩ ∧ Fr No w wr)
  case atStart => exact ⟨0, by omega, rfl, rfl, Fr.refl _ _⟩
  case round =>
    obtain ⟨k, hk, rfl, rfl, hfr⟩ := hrel
    by_cases hlt : k < l.length
    · have hlt' : (k : Int) < (l.length : Int) := by omega
      obtain ⟨x, hx⟩ : ∃ x, l[k]? = some x := ⟨l[k], by simp [hlt]⟩
      obtain ⟨gb, off, rfl, hgb, hcell⟩ := hr.form (fun h => by have := strsV_length l; rw [h] at this; simp at this; omega)
      have hq := hfr.cell (hcell k _ (strsV_get hx)) id
      have hxl := HX.out x (List.mem_of_getElem? hx)
      have hxl' : (x.length : Int) ≤ 1000000 := by omega
      have Hst := Lib.hid (shape_take l k x hx)
      have hle := shape_le (l.take k) 1000000 (fun y hy => HX.out y (List.mem_of_mem_take hy))
      rw [List.length_take] at hle
      have hle2 : min k l.length * (1000000 + 2) ≤ 1000 * (1000000 + 2) := Nat.mul_le_mul_right _ (by omega)
      obtain ⟨acc, hacc⟩ : ∃ acc, Cr.shape (l.take k) = acc := ⟨_, rfl⟩
      rw [hacc] at hle
      have ha1 : ∀ w, (Op.stringOp .add ⟨acc.toArray⟩ ⟨(47 :: x).toArray⟩).run Tryz.prog w = .ok (.string ⟨(acc ++ (47 :: x)).toArray⟩) w := run_cat acc (47 :: x) (by simp only [List.length_cons]; omega)
      have ha2 : ∀ w, (Op.stringOp .add ⟨#[47]⟩ ⟨x.toArray⟩).run Tryz.prog w = .ok (.string ⟨(47 :: x).toArray⟩) w := run_cat [47] x (by simp only [List.length_cons, List.length_nil]; omega)
      have ha3 : ∀ w, (Op.stringOp .add ⟨acc.toArray⟩ ⟨#[47, 58]⟩).run Tryz.prog w = .ok (.string ⟨(acc ++ [47, 58]).toArray⟩) w := run_cat acc [47, 58] (by simp only [List.length_cons, List.length_nil]; omega)
      have ha4 : ∀ w, (Op.stringOp .add ⟨acc.toArray⟩ ⟨#[47, 42]⟩).run Tryz.prog w = .ok (.string ⟨(acc ++ [47, 42]).toArray⟩) w := run_cat acc [47, 42] (by simp only [List.length_cons, List.length_nil]; omega)
      clear hle hle2
      rw [hacc] at Hst ⊢
      clear hacc hx
      go_wp2_with (go_at_call 116; refine (kind_any _ x hxl).mono ?_)
      rintro e w2 ⟨rfl, hf3⟩
      have hfr2 := hfr.trans hf3 (fun _ _ h => h)
      have hs1 := shapeOne_le x
      rcases kind_three x with hkd | hkd | hkd
      all_goals rw [hkd]
      all_goals have Hkd := Lib.hid hkd
      all_goals clear hkd
      all_goals go_wp2_with fail
      all_goals go_roundg (gk - 1)
      case measure => omega
      case rel =>
        refine ⟨k + 1, by omega, by go_num, ?_, hfr2⟩
        rw [Hst.out, shapeOne, if_pos Hkd.out]
      case measure => omega
      case rel =>
        refine ⟨k + 1, by omega, by go_num, ?_, hfr2⟩
        rw [Hst.out, shapeOne, if_neg (by rw [Hkd.out]; decide), if_pos Hkd.out]
      case measure => omega
      case rel =>
        refine ⟨k + 1, by omega, by go_num, ?_, hfr2⟩
        rw [Hst.out, shapeOne, if_neg (by rw [Hkd.out]; decide), if_neg (by rw [Hkd.out]; decide)]
    · have hlt' : ¬ (k : Int) < (l.length : Int) := by omega
      go_wp2_with fail
      go_ret
      exact ⟨by rw [List.take_of_length_le (by omega)]; rfl, hfr⟩

/-- The table of handlers lies as it was laid. -/
def Hands (w : World) : Prop := ∃ t fr, w.heap[1]? = some (.cells (strsV Cr.handlers).toArray t fr)
theorem Hands.fr {S : Nat → Prop} {w w' : World} (h : Hands w) (hf : Fr S w w') (hS : ¬ S 1) : Hands w' := by
  obtain ⟨t, fr, hh⟩ := h
  exact ⟨t, fr, hf.heap hh hS⟩
theorem Hands.lt {w : World} (h : Hands w) : 1 < w.heap.size := by
  obtain ⟨t, fr, hh⟩ := h
  exact (Array.getElem?_eq_some_iff.1 hh).1

set_option maxRecDepth 100000 in
theorem handler_any (w : World) (hh : Hands w) (s : Str) :
    Calls Tryz.prog 115 #[.string ⟨s.toArray⟩] w fun e w' => e = .returned (.bool (Cr.handlers.contains s)) ∧ Fr No w w' := by
  obtain ⟨tt, fr, hg⟩ := hh
  have hidx : ∀ (k : Nat) (x : Str), Cr.handlers[k]? = some x → ∀ w, (Instr.index 230 (.agg (strsV Cr.handlers).toArray) (.int .i64 k)).run Tryz.prog w = .ok (.string ⟨x.toArray⟩) w := by
    intro k x hk w
    have hk8 : k < 8 := (List.getElem?_eq_some_iff.1 hk).1
    rcases k with _ | _ | _ | _ | _ | _ | _ | _ | k
    all_goals try omega
    all_goals (simp only [Cr.handlers, List.getElem?_cons_zero, List.getElem?_cons_succ, Option.some.injEq] at hk; subst hk; rfl)
  have hlen : Cr.handlers.length = 8 := rfl
  obtain ⟨HV, hHV⟩ : ∃ HV, (strsV Cr.handlers).toArray = HV := ⟨_, rfl⟩
  have hsz : HV.size = 8 := by rw [← hHV]; simp [hlen]
  rw [hHV] at hg hidx
  have Hidx := Lib.hid hidx
  have Hlen := Lib.hid hlen
  obtain ⟨L, hL⟩ : ∃ L, Cr.handlers = L := ⟨_, rfl⟩
  rw [hL] at Hidx Hlen ⊢
  clear hHV hidx hlen hL
  have hi8 : (Tryz.prog.info? 230).map (·.size) = some HV.size := by
    rw [hsz]
    kernel_rfl
  go_enter Tryz.func115, Tryz.ntmps115
  go_wp2_with (refine wpList_load_row rfl 230 _ rfl 1 rfl tt _ fr _ hg Tryz.underlying230 rfl hi8 ?_)
  go_loopg [6] 8 (fun gm i wr => ∃ k : Nat, k + gm = 8 ∧ i = .int .i64 k ∧ wr = w ∧ Hid (∀ x ∈ L.take k, x ≠ s))
  case atStart => exact ⟨0, by omega, rfl, rfl, (by simp : ∀ x ∈ L.take 0, x ≠ s)⟩
  case round =>
    obtain ⟨k, hk, rfl, rfl, HI⟩ := hrel
    by_cases hlt : k < 8
    · have hlt' : (k : Int) < 8 := by omega
      obtain ⟨x, hx⟩ : ∃ x, L[k]? = some x := ⟨L[k]'(by have := Hlen.out; omega), by simp⟩
      have hix := Hidx.out k x hx
      have Hx := Lib.hid hx
      clear hx
      by_cases hxs : x = s
      · have hbe : (x == s) = true := by simpa using hxs
        have Hxs := Lib.hid hxs
        clear hxs
        go_wp2_with fail
        go_ret
        refine ⟨?_, Fr.refl _ _⟩
        have hm : s ∈ L := by
          rw [← Hxs.out]
          exact List.mem_of_getElem? Hx.out
        simp [hm]
      · have hbe : (x == s) = false := by simpa using hxs
        have Hxs := Lib.hid hxs
        clear hxs
        go_wp2_with fail
        go_roundg (gk - 1)
        case measure => omega
        case rel =>
          refine ⟨k + 1, by omega, by go_num, rfl, ?_⟩
          intro y hy
          rw [List.take_add_one, Hx.out] at hy
          simp only [Option.toList_some, List.mem_append, List.mem_singleton] at hy
          rcases hy with hy | rfl
          · exact HI.out y hy
          · exact Hxs.out
    · have hlt' : ¬ (k : Int) < 8 := by omega
      go_wp2_with fail
      go_ret
      refine ⟨?_, Fr.refl _ _⟩
      have hm : s ∉ L := by
        intro hs
        refine HI.out s ?_ rfl
        rw [List.take_of_length_le (by have := Hlen.out; omega)]
        exact hs
      simp [hm]

/-- The three cells of a route, as an argument. -/
def rouA (r : Cr.Rou) : Value := .agg #[.string ⟨r.method.toArray⟩, .string ⟨r.pattern.toArray⟩, .string ⟨r.handler.toArray⟩]
def rouSmall (r : Cr.Rou) : Prop := r.method.length ≤ 1000000 ∧ r.pattern.length ≤ 1000000 ∧ r.handler.length ≤ 1000000

set_option maxRecDepth 100000 in
theorem right_any (w : World) (hh : Hands w) (r : Cr.Rou) (hr : rouSmall r) :
    Calls Tryz.prog 94 #[.agg #[.string ⟨r.method.toArray⟩, .string ⟨r.pattern.toArray⟩, .string ⟨r.handler.toArray⟩]] w fun e w' => e = .returned (.bool (Cr.rightRoute r)) ∧ Fr No w w' := by
  have HP := Lib.hid (fun W => pattern_any W r.pattern hr.2.1)
  have HT := Lib.hid (fun W => token_any W r.method hr.1)
  have HH := Lib.hid (fun W hW => handler_any W hW r.handler)
  have hres : Cr.rightRoute r = ((Cr.pattern r.pattern).2 && Cr.token r.method && Cr.handlers.contains r.handler) := rfl
  rw [hres]
  generalize (Cr.pattern r.pattern).1 = pl at HP
  generalize (Cr.pattern r.pattern).2 = pb at HP ⊢
  generalize Cr.token r.method = tb at HT ⊢
  generalize Cr.handlers.contains r.handler = hb at HH ⊢
  have Hh := Lib.hid hh
  clear hh hres
  go_enter Tryz.func94, Tryz.ntmps94
  go_wp2_with (go_at_call 95; refine (HP.out _).mono ?_)
  rintro e w1 ⟨v, rfl, hown, hf1⟩
  have hf1' : Fr No w w1 := ((Fr.refl _ _).alloc _).trans hf1 (fun _ _ h => h)
  have hblk := (Blk.new w 137 #[.string ⟨r.method.toArray⟩, .string ⟨r.pattern.toArray⟩, .string ⟨r.handler.toArray⟩]).fr hf1 id
  have q0 := hblk.cell 0
  have q2 := hblk.cell 2
  simp only [List.getElem?_toArray, List.getElem?_cons_zero, List.getElem?_cons_succ] at q0 q2
  clear hf1
  cases pb with
  | false =>
    go_wp2_with fail
    go_ret
    exact ⟨rfl, hf1'⟩
  | true =>
    go_wp2_with (go_at_call 114; refine (HT.out _).mono ?_)
    rintro e w2 ⟨rfl, hf2⟩
    have q3 := hf2.cell q2 id
    cases tb with
    | false =>
      go_wp2_with fail
      go_ret
      exact ⟨rfl, hf1'.trans hf2 (fun _ _ h => h)⟩
    | true =>
      have hf2' : Fr No w w2 := hf1'.trans hf2 (fun _ _ h => h)
      have HK := Lib.hid (HH.out w2 (Hh.out.fr hf2' id))
      clear hf2
      go_wp2_with (go_at_call 115; refine HK.out.mono ?_)
      rintro e w3 ⟨rfl, hf3⟩
      go_wp2_with fail
      go_ret
      exact ⟨by simp, hf2'.trans hf3 (fun _ _ h => h)⟩
end Go.Proofs.YthcbjeeajoliiaaGreatDoor
