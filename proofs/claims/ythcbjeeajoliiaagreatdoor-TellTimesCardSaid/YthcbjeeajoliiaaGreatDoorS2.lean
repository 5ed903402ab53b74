/- The walk of script.Decode. -/
import Derived.Test.YthcbjeeajoliiaaGreatDoorS1
import Derived.WalkSpells
import Derived.Deep.DeepCutAuto
import Derived.Deep.LoopGhost
set_option linter.unusedVariables false
set_option linter.unusedSimpArgs false
namespace Go.Proofs.YthcbjeeajoliiaaGreatDoor
open Go.RowKit
open Cr (Str ActM decAct decodeAll)

/-- An act's cells. -/
def actV (a : ActM) : List Value := [.int .i64 a.kind, .int .i64 a.conn, .int .i64 a.n, .string ⟨a.data.toArray⟩]
def actsV (l : List ActM) : List Value := l.flatMap actV
theorem actsV_length (l : List ActM) : (actsV l).length = l.length * 4 := by
  induction l with
  | nil => rfl
  | cons a l ih => simp only [actsV, List.flatMap_cons, List.length_append, List.length_cons] at *; rw [ih]; simp [actV]; omega
theorem actsV_append (l m : List ActM) : actsV (l ++ m) = actsV l ++ actsV m := by simp [actsV]

theorem actInfo : (Tryz.prog.info? 29).map (fun i => (i.zero, i.size, i.bytes)) = some (some (.agg #[.int .i64 0, .int .i64 0, .int .i64 0, .string ⟨#[]⟩]), 4, 40) := by kernel_rfl

theorem Nat.four_pos : 0 < 4 := by decide

set_option maxRecDepth 100000 in
set_option maxHeartbeats 1000000 in
theorem decode_any (P : Nat → Prop) (A : Option Addr) (c : Nat) (bs : Str) (w : World) (hr : Rd (fun k => k < w.heap.size) w A (byV bs)) (hc : bs.length ≤ c) (hn : bs.length ≤ 1000000) :
    Calls Tryz.prog 21 #[.slice A bs.length c] w fun e w' =>
      ∃ v, e = .returned v ∧ w'.ownsRow w.heap.size 29 4 v (decodeAll bs).length (actsV (decodeAll bs)) ∧ Fr No w w' := by
  go_enter Tryz.func21, Tryz.ntmps21
  go_wp2_with fail
  obtain ⟨w0, hw0⟩ : ∃ w0, w0 = w.alloc (Obj.cells #[Value.slice A bs.length c] 51) := ⟨_, rfl⟩
  rw [← hw0]
  have hbox0 : BoxB (fun k => k < w.heap.size) w0 w.heap.size bs := by
    subst hw0
    exact ⟨A, c, Blk.new _ _ _, hc, hr.fr ((Fr.refl No w).alloc _) (fun _ _ => id)⟩
  have hfr0 : Fr No w w0 := by subst hw0; exact (Fr.refl No w).alloc _
  have hgt0 : w.heap.size < w0.heap.size := by subst hw0; simp
  clear hw0
  generalize hB : w.heap.size = B at *
  have hB' := Lib.hid hB; clear hB
  go_loopg [3] bs.length (fun gm v wr => ∃ acts rest, gm = rest.length ∧ decodeAll bs = acts ++ decodeAll rest ∧ acts.length + rest.length ≤ bs.length ∧ wr.ownsRow (B + 1) 29 4 v acts.length (actsV acts) ∧ BoxB (fun k => k < B) wr B rest ∧ Fr No w wr ∧ B < wr.heap.size)
  case atStart => exact ⟨[], bs, rfl, rfl, by simp, World.ownsRow_nil _ _ _ _, hbox0, hfr0, hgt0⟩
  case round =>
    obtain ⟨acts, rest, rfl, hdec, hle, hown, hbox, hfr, hgt⟩ := hrel
    obtain ⟨A1, c1, hb1, hc1, hr1⟩ := id hbox
    have hcell := hb1.cell 0
    simp only [List.getElem?_toArray, List.getElem?_cons_zero] at hcell
    have Hdec := Lib.hid hdec
    clear hdec
    cases rest with
    | nil =>
      simp only [List.length_nil] at hcell
      go_wp2_with fail
      go_ret
      have e := Hdec.out
      rw [Cr.decodeAll_nil, List.append_nil] at e
      exact ⟨u3, rfl, by rw [e, hB'.out]; exact hown.weaken (by omega), hfr⟩
    | cons x b =>
      simp only [List.length_cons] at hcell hle
      have hpos : (0 : Int) < (b.length : Int) + 1 := by omega
      go_wp2_with fail
      refine (next_any (fun k => k < B) B (x :: b) wr hbox (by simp) (by simp only [List.length_cons]; omega)).mono ?_
      rintro e w1 ⟨rfl, hbox1, hfr1⟩
      simp only [List.headD_cons, List.tail_cons] at hbox1 ⊢
      go_wp2_with fail
      refine (next_any (fun k => k < B) B b w1 hbox1 (by simp) (by omega)).mono ?_
      rintro e w2 ⟨rfl, hbox2, hfr2⟩
      have e15 := and15 (x.toNat : Int)
      have hfr12 : Fr (fun k => k = B) wr w2 := hfr1.trans hfr2 (fun _ _ h => h)
      have hown2 : w2.ownsRow (B + 1) 29 4 u3 acts.length (actsV acts) := hown.fr hfr12 (fun k hk => by have := (hown.lt k hk).1; omega)
      have hvlt : ∀ k, u3.ownBlock = some k → k < w2.heap.size := fun k hk => by have := (hown.lt k hk).2; have := hfr12.size; omega
      have hg2 : B < w2.heap.size := by have := hfr12.size; omega
      clear hfr1 hfr2 hown
      generalize hact : decAct x b = ar
      obtain ⟨act, rest'⟩ := ar
      have Hact := Lib.hid hact
      clear hact
      go_upto_if 24 with (fail)
      go_cut [6] (fun s6 wx => s6 = .pointer (some ⟨w2.heap.size, 0, none⟩) ∧ Blk wx w2.heap.size 29 (actV act).toArray ∧ BoxB (fun k => k < B) wx B rest' ∧ wx.ownsRow (B + 1) 29 4 u3 acts.length (actsV acts) ∧ Fr (fun k => B = k) wr wx)
      case first =>
        by_cases hk : (x.toNat : Int) % 16 = 1
        · have hkb : ((x.toNat : Int) % 16 == 1) = true := by simpa using hk
          have hbox2' := fun o => hbox2.fr ((Fr.refl No w2).alloc o) id (fun _ _ => id)
          go_wp2_with (go_at_call 41; go_must (refine (next_any (fun k => k < B) B b.tail _ (hbox2' _) (by simp) (by simp; omega)).mono ?_))
          rintro e w3 ⟨rfl, hbox3, hfr3⟩
          have hd := Hact.out
          have hd2 : act = ⟨1, (x.toNat : Int) / 16, ((b.headD 0).toNat : Int), b.tail.tail.take (min (b.tail.headD 0).toNat b.tail.tail.length)⟩ ∧ rest' = b.tail.tail.drop (min (b.tail.headD 0).toNat b.tail.tail.length) := by
            unfold decAct at hd
            simp only [hk, if_true, Prod.mk.injEq] at hd
            exact ⟨hd.1.symm, hd.2.symm⟩
          have hrl : b.tail.tail.length ≤ b.length := by simp; omega
          clear hd
          generalize b.tail.tail = r at *
          generalize (b.tail.headD 0).toNat = q at *
          obtain ⟨m, hm⟩ : ∃ m, m = min q r.length := ⟨_, rfl⟩
          rw [← hm] at hd2
          obtain ⟨rfl, rfl⟩ := hd2
          obtain ⟨A3, c3, hb3, hc3, hr3⟩ := id hbox3
          have hcell3 := hb3.cell 0
          simp only [List.getElem?_toArray, List.getElem?_cons_zero] at hcell3
          have hfz3 := hb3.frozen 0
          have hBne : ¬ B = w2.heap.size := by omega
          have hblk : Blk w3 w2.heap.size 29 #[.int .i64 1, .int .i64 ((x.toNat : Int) / 16), .int .i64 ((b.headD 0).toNat : Int), .string ⟨#[]⟩] := by
            refine Blk.fr ?_ hfr3 (by omega)
            simpa using Blk.new w2 _ _
          have hown3 : w3.ownsRow (B + 1) 29 4 u3 acts.length (actsV acts) := (hown2.alloc _).fr hfr3 (fun k hk => by have := (hown2.lt k hk).1; omega)
          have hfr13 : Fr (fun k => B = k) wr w3 := (((hfr12.mono (S' := fun k => B = k) (fun _ _ h => h.symm)).alloc _).trans hfr3 (fun _ _ h => h.symm))
          have hk3 := hblk.cell 3
          have hkf := hblk.frozen 3
          simp only [List.getElem?_toArray, List.getElem?_cons_zero, List.getElem?_cons_succ] at hk3
          have hc3' : (r.length : Int) ≤ c3 := by omega
          have hrl2 : (r.length : Int) ≤ 1000000 := by omega
          have fin : ∀ (A4 : Option Addr) (n4 c4 : Nat), n4 = r.length - m → n4 ≤ c4 → Rd (fun k => k < B) w3 A4 (byV (r.drop m)) →
              Blk ((w3.setCell ⟨w2.heap.size, 3, none⟩ (.string ⟨(r.take m).toArray⟩)).setCell ⟨B, 0, none⟩ (.slice A4 n4 c4)) w2.heap.size 29 (actV ⟨1, (x.toNat : Int) / 16, ((b.headD 0).toNat : Int), r.take m⟩).toArray ∧
              BoxB (fun k => k < B) ((w3.setCell ⟨w2.heap.size, 3, none⟩ (.string ⟨(r.take m).toArray⟩)).setCell ⟨B, 0, none⟩ (.slice A4 n4 c4)) B (r.drop m) ∧
              ((w3.setCell ⟨w2.heap.size, 3, none⟩ (.string ⟨(r.take m).toArray⟩)).setCell ⟨B, 0, none⟩ (.slice A4 n4 c4)).ownsRow (B + 1) 29 4 u3 acts.length (actsV acts) ∧
              Fr (fun k => B = k) wr ((w3.setCell ⟨w2.heap.size, 3, none⟩ (.string ⟨(r.take m).toArray⟩)).setCell ⟨B, 0, none⟩ (.slice A4 n4 c4)) := by
            intro A4 n4 c4 hn4 hc4 hr4
            subst hn4
            have hF : Fr (fun k => k = w2.heap.size ∨ k = B) w3 ((w3.setCell ⟨w2.heap.size, 3, none⟩ (.string ⟨(r.take m).toArray⟩)).setCell ⟨B, 0, none⟩ (.slice A4 (r.length - m) c4)) :=
              ((Fr.refl _ w3).setCell (p := ⟨w2.heap.size, 3, none⟩) (fun _ => .inl rfl) _).setCell (p := ⟨B, 0, none⟩) (fun _ => .inr rfl) _
            refine ⟨?_, ⟨A4, c4, ?_, by simpa using hc4, hr4.fr hF (fun k hk h => by omega)⟩, hown3.fr hF (fun k hk h => ?_), hfr13.trans hF (fun k hk h => ?_)⟩
            · simpa [actV] using (hblk.set_ 3 (.string ⟨(r.take m).toArray⟩)).far (p := ⟨B, 0, none⟩) (Ne.symm hBne) _
            · simpa using (hb3.far (p := ⟨w2.heap.size, 3, none⟩) hBne _).set_ 0 (.slice A4 (r.length - m) c4)
            · have h1 := (hown2.lt k hk).1; have h2 := (hown2.lt k hk).2; omega
            · have := hfr12.size; omega
          have Hm := Lib.hid hm
          clear hm
          rcases Nat.lt_or_ge r.length q with hq | hq
          rotate_left
          · have hq1 : (q : Int) ≤ (r.length : Int) := by omega
            obtain rfl : m = q := by have := Hm.out; omega
            have hconv := run_conv_bytes (P := Tryz.prog) (Pr := fun k => k < B) w3 51 9 5 Tryz.underlying51 Tryz.underlying5 Tryz.underlying9 A3 m c3 (r.take m) (by simp; omega) (by rw [← byV_take]; exact hr3.take_ _)
            have hrd : ∀ A4, (c3 = m → A4 = A3) → (¬ c3 = m → A4 = A3.map (fun x => x.add m)) → Rd (fun k => k < B) w3 A4 (byV (r.drop m)) := by
              intro A4 h1 h2
              by_cases hlt : m < r.length
              · have := hr3.drop_ (n := r.length) (c := c3) (k := m) hlt hc3 m
                rw [byV_drop, if_neg (by omega)] at this
                rw [h2 (by omega)]
                exact this
              · rw [List.drop_of_length_le (by omega)]; exact Rd.nil _ _ _
            by_cases hcq : c3 = m
            · subst hcq
              go_wp2_with fail
              go_meet
              exact ⟨rfl, fin A3 0 0 (by have := hc3; omega) (Nat.le_refl _) (hrd _ (fun _ => rfl) (fun h => by simp at h))⟩
            · go_wp2_with fail
              go_meet
              exact ⟨rfl, fin _ (r.length - m) (c3 - m) rfl (by have := hc3; omega) (hrd _ (fun h => absurd h hcq) (fun _ => rfl))⟩
          · have hq1 : (r.length : Int) < (q : Int) := by omega
            obtain rfl : m = r.length := by have := Hm.out; omega
            have hconv := run_conv_bytes (P := Tryz.prog) (Pr := fun k => k < B) w3 51 9 5 Tryz.underlying51 Tryz.underlying5 Tryz.underlying9 A3 r.length c3 r rfl hr3
            simp only [List.take_length, List.drop_length, Nat.sub_self] at fin
            by_cases hcq : c3 = r.length
            · subst hcq
              go_wp2_with fail
              go_meet
              simp only [List.take_length, List.drop_length]
              exact ⟨trivial, fin _ _ _ rfl (Nat.zero_le _) (Rd.nil _ _ _)⟩
            · go_wp2_with fail
              go_meet
              simp only [List.take_length, List.drop_length]
              exact ⟨trivial, fin _ _ _ rfl (Nat.zero_le _) (Rd.nil _ _ _)⟩
        · have hkb : ((x.toNat : Int) % 16 == 1) = false := by simpa using hk
          have hd := Hact.out
          have hd2 : act = ⟨(x.toNat : Int) % 16, (x.toNat : Int) / 16, ((b.headD 0).toNat : Int), []⟩ ∧ rest' = b.tail := by
            unfold decAct at hd
            simp only [hk, if_false, Prod.mk.injEq] at hd
            exact ⟨hd.1.symm, hd.2.symm⟩
          obtain ⟨rfl, rfl⟩ := hd2
          go_wp2_with fail
          go_meet
          exact ⟨rfl, by simpa [actV] using Blk.new w2 _ _, hbox2.fr ((Fr.refl No w2).alloc _) id (fun _ _ => id), hown2.alloc _, (hfr12.mono (S' := fun k => B = k) (fun _ _ h => h.symm)).alloc _⟩
      case rest =>
        obtain ⟨rfl, hblk, hboxc, hownc, hfrc⟩ := hcut
        have hc0 := hblk.cell 0
        have hc1' := hblk.cell 1
        have hc2' := hblk.cell 2
        have hc3' := hblk.cell 3
        simp only [actV, List.getElem?_toArray, List.getElem?_cons_zero, List.getElem?_cons_succ] at hc0 hc1' hc2' hc3'
        have hle2 := Cr.decAct_le x b
        rw [Hact.out] at hle2
        go_wp2_with (at_builtin; go_must (refine wpList_app (Pr := fun _ => True) _ rfl _ _ _ rfl (B + 1) 29 _ 4 40 Tryz.underlying27 actInfo rfl Nat.four_pos u3 acts.length (actsV acts) rfl ?c0 _ 1 1 (actV act) rfl ?c1 ?c2 ?c3 ?c4 ?c6 ?c5 ?_))
        case c0 => exact hownc.alloc _
        case c1 => rfl
        case c2 => exact Rd.mono (Rd.newAt (by simp) rfl) (fun _ _ _ => trivial)
        case c3 => intro u hu; simp only [actV, List.mem_cons, List.not_mem_nil, or_false] at hu; rcases hu with rfl | rfl | rfl | rfl <;> rfl
        case c4 => omega
        case c5 => have := hfrc.size; simp; omega
        intro v' w' hown' hfr' hat
        have hvB : ∀ k, u3.ownBlock = some k → B < k := fun k hk => by have := (hownc.lt k hk).1; omega
        have hboxw := (hboxc.fr ((Fr.refl No wc).alloc _) id (fun _ _ => id)).fr hfr' (fun hk => by have := hvB B hk; omega) (fun k hk h => by have := hvB k h; omega)
        have hfrw : Fr No w w' := hfr.trans (((hfrc.alloc _).mono (S' := fun k => B ≤ k) (fun k _ h => by omega)).trans hfr' (fun k hk h => by have := hvB k h; omega)) (fun k hk h => by have := hB'.out; omega)
        have hgw : B < w'.heap.size := by have := hfr'.size; have := hfrc.size; simp at *; omega
        clear hfr' hfrc hownc hboxc
        go_wp2
        go_roundg rest'.length
        case measure => simp only [List.length_cons]; omega
        case rel =>
          refine ⟨acts ++ [act], rest', rfl, ?_, ?_, ?_, hboxw, hfrw, hgw⟩
          · rw [Hdec.out, Cr.decodeAll_cons, Hact.out]; simp
          · simp only [List.length_append, List.length_cons, List.length_nil]; omega
          · rw [actsV_append]; simpa [actsV] using hown'
end Go.Proofs.YthcbjeeajoliiaaGreatDoor
