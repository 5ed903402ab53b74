/- A quiet server: settle, drop. -/
import Derived.Test.YthcbjeeajoliiaaGreatDoorU4
set_option linter.unusedVariables false
set_option linter.unusedSimpArgs false
namespace Go.Proofs.YthcbjeeajoliiaaGreatDoor
open Go.RowKit
open Cr (Str)

theorem ptrsV_snoc (l : List Nat) (b : Nat) : ptrsV (l ++ [b]) = ptrsV l ++ [.pointer (some ⟨b, 0, none⟩)] := by simp [ptrsV]
theorem row_form {B : Nat} {w : World} {A : Option Addr} {k0 : Nat} {sb : List (Nat × Nat)} (hov : w.ownsRow B 99 1 (.slice A sb.length k0) sb.length (ptrsV (sb.map (·.1)))) (h0 : 0 < sb.length) :
    ∃ gA, A = some ⟨gA, 0, none⟩ ∧ ∀ (k : Nat) x, sb[k]? = some x → w.cell? ⟨gA, k, none⟩ = some (.pointer (some ⟨x.1, 0, none⟩)) := by
  obtain ⟨gA, c, hv, _⟩ := hov.ofPos h0
  injection hv with hA
  subst hA
  exact ⟨gA, rfl, fun k x hx => hov.at_ (ptrsV_at (by simp [hx]))⟩

/-- The server's block with another row of connections. -/
theorem QSt.reRow {B : Nat} {w wr : World} {g : Nat} {p : SP} {sb sb' : List (Nat × Nat)} {bs ds : List Nat} {now : Int} (h : QSt B w g p sb bs ds now) (hf : Fr No w wr) (v : Value) (hsub : ∀ x ∈ sb', x ∈ sb)
    (hv : wr.ownsRow w.heap.size 99 1 v sb'.length (ptrsV (sb'.map (·.1)))) (hB : B ≤ w.heap.size) : QSt B (wr.setCell ⟨g, 10, none⟩ v) g p sb' bs ds now ∧ Fr (fun k => k = g) w (wr.setCell ⟨g, 10, none⟩ v) := by
  obtain ⟨hbase, ⟨vC, hb, _⟩, hcs, hnet, hrest⟩ := h.no hf
  have hb1 := hb.set_ 10 v
  have hf1 : Fr (fun i => i = g) wr (wr.setCell ⟨g, 10, none⟩ v) := by
    refine Fr.setCell (Fr.refl _ _) ?_ _
    intro _; rfl
  exact ⟨⟨hbase, ⟨v, hb1, (own_off hv hf1 (Off.one hb (by decide))).weaken hB⟩, fun x hx => ⟨(hcs x (hsub x hx)).1.off hf1 (Off.one hb (by decide)), (hcs x (hsub x hx)).2⟩, hnet.off hf1 (Off.one hb (by decide)), hrest.off hf1 (Off.one hb (by decide))⟩,
    (hf.mono (fun _ _ h => absurd h id)).trans hf1 (fun _ _ h => h)⟩

set_option maxRecDepth 100000 in
theorem settle_quiet (B : Nat) (w : World) (g : Nat) (p : SP) (sb : List (Nat × Nat)) (bs ds : List Nat) (now : Int) (h : QSt B w g p sb bs ds now) (hB : B ≤ w.heap.size) (hn : sb.length ≤ 1000) :
    Calls Tryz.prog 33 #[.pointer (some ⟨g, 0, none⟩)] w fun e w' => e = .returned (.tuple #[]) ∧ QSt B w' g p sb bs ds now ∧ Fr (fun k => k = g) w w' := by
  have HQ := Lib.hid (fun wr (hf : Fr No w wr) v hv => h.reRow (sb' := sb) hf v (fun _ hx => hx) hv hB)
  have HC := Lib.hid (fun x (hx : x ∈ sb) => (h.conns x hx).1)
  obtain ⟨hbase, ⟨vC, hb, hov⟩, hcs, hnet, hrest⟩ := h
  obtain ⟨A0, k0, rfl, hk0, _⟩ := own_form hov
  have Hrow := Lib.hid (row_form hov)
  have s10 : w.cell? ⟨g, 10, none⟩ = some (.slice A0 sb.length k0) := hb.cell 10
  have Hb := Lib.hid hb
  clear hov hcs hnet hrest hb
  go_enter Tryz.func33, Tryz.ntmps33
  go_wp2_with fail
  go_loopg [2, 12] sb.length (fun gm r i wr => ∃ k : Nat, k + gm = sb.length ∧ i = .int .i64 k ∧ wr.ownsRow w.heap.size 99 1 r k (ptrsV ((sb.take k).map (·.1))) ∧ Fr No w wr)
  case atStart => exact ⟨0, by omega, rfl, ⟨by simp [ptrsV], .inl ⟨rfl, rfl⟩⟩, Fr.refl _ _⟩
  case round =>
    obtain ⟨k, hkk, rfl, hown, hfr⟩ := hrel
    have hszr := hfr.size
    by_cases hlt : k < sb.length
    · have hlt' : (k : Int) < (sb.length : Int) := by omega
      obtain ⟨x, hx⟩ : ∃ x, sb[k]? = some x := ⟨sb[k], by simp [hlt]⟩
      obtain ⟨gA, rfl, hcell⟩ := Hrow.out (by omega)
      have q0 := hfr.cell (hcell k x hx) id
      obtain ⟨bb, cc, r, n, _, _, _, hcb, _, _⟩ := HC.out x (List.mem_of_getElem? hx)
      have q5 : wr.cell? ⟨x.1, 5, none⟩ = some (.bool false) := hfr.cell (hcb.cell 5) id
      have htake : sb.take (k + 1) = sb.take k ++ [x] := by rw [List.take_add_one, hx]; rfl
      have Htake := Lib.hid htake
      clear hcell hx hcb htake
      obtain ⟨Ar, cr, rfl, hcr, _⟩ := own_form hown
      go_wp2_with (at_builtin; go_must (refine wpList_app (Pr := fun _ => True) _ rfl (.tmp 44) (.tmp 46) _ rfl w.heap.size 99 _ 1 8 Tryz.underlying35 infoSConnP rfl (by decide) (.slice Ar k cr) k (ptrsV ((sb.take k).map (·.1))) rfl ?a0 _ 1 1 [.pointer (some ⟨x.1, 0, none⟩)] rfl rfl ?a2 ?a3 ?a4 (by decide) ?a5 ?_))
      case a0 => exact hown.alloc _
      case a2 => exact Rd.mono (Rd.newAt rfl rfl) (fun _ _ _ => trivial)
      case a3 => intro u hu; simp at hu; subst hu; rfl
      case a4 => omega
      case a5 => simp; omega
      intro v1 w3 hown3 hf3 _
      have hf23 : Fr No w w3 := (hfr.alloc _).trans hf3 (fun i hi h => by have := (hown.lt i h).1; omega)
      clear hf3
      go_wp2_with fail
      go_roundg (gk - 1)
      case measure => omega
      case rel =>
        refine ⟨k + 1, by omega, by go_num, ?_, hf23⟩
        rw [Htake.out, List.map_append, List.map_cons, List.map_nil, ptrsV_snoc]
        simpa [List.map_take] using hown3
    · have hlt' : ¬ (k : Int) < (sb.length : Int) := by omega
      obtain rfl : k = sb.length := by omega
      rw [List.take_length] at hown
      obtain ⟨Ar, cr, rfl, hcr, _⟩ := own_form hown
      have hbr := Hb.out.fr hfr id
      have r0 : wr.cell? ⟨g, 10, none⟩ = some (.slice A0 sb.length k0) := hbr.cell 10
      have z0 : wr.frozen? ⟨g, 10, none⟩ = false := hbr.frozen 10
      have q13 : (wr.setCell ⟨g, 10, none⟩ (.slice Ar sb.length cr)).cell? ⟨g, 13, none⟩ = some (.int .i64 0) := (hbr.set_ 10 _).cell 13
      have HE := Lib.hid (HQ.out wr hfr _ hown)
      clear hbr hown
      go_wp2_with fail
      refine bodyPost_ret (results_none rfl _ _ _) rfl ?_
      exact ⟨rfl, HE.out.1, HE.out.2⟩

/-- The connections behind 'drop'. -/
def without (id : Nat) (l : List (Nat × Nat)) : List (Nat × Nat) := l.filter fun x => !(x.2 == id)
theorem without_snoc (id : Nat) (l : List (Nat × Nat)) (x : Nat × Nat) : without id (l ++ [x]) = without id l ++ (if x.2 = id then [] else [x]) := by
  unfold without
  rw [List.filter_append]
  by_cases h : x.2 = id <;> simp [h]

set_option maxRecDepth 100000 in
theorem drop_quiet (B : Nat) (w : World) (g : Nat) (p : SP) (sb : List (Nat × Nat)) (bs ds : List Nat) (now : Int) (id : Nat) (h : QSt B w g p sb bs ds now) (hB : B ≤ w.heap.size) (hn : sb.length ≤ 1000) :
    Calls Tryz.prog 30 #[.pointer (some ⟨g, 0, none⟩), .int .i64 id] w fun e w' => e = .returned (.tuple #[]) ∧ QSt B w' g p (without id sb) bs ds now ∧ Fr (fun k => k = g) w w' := by
  have HQ := Lib.hid (fun wr (hf : Fr No w wr) v hv => h.reRow (sb' := without id sb) hf v (fun _ hx => (List.mem_filter.1 hx).1) hv hB)
  have HC := Lib.hid (fun x (hx : x ∈ sb) => (h.conns x hx).1)
  have hwl : (without id sb).length ≤ 1000 := Nat.le_trans (List.length_filter_le _ _) hn
  obtain ⟨hbase, ⟨vC, hb, hov⟩, hcs, hnet, hrest⟩ := h
  obtain ⟨A0, k0, rfl, hk0, _⟩ := own_form hov
  have Hrow := Lib.hid (row_form hov)
  have s10 : w.cell? ⟨g, 10, none⟩ = some (.slice A0 sb.length k0) := hb.cell 10
  have Hb := Lib.hid hb
  clear hov hcs hnet hrest hb
  go_enter Tryz.func30, Tryz.ntmps30
  go_wp2_with fail
  go_loopg [4, 12] sb.length (fun gm r i wr => ∃ k : Nat, k + gm = sb.length ∧ i = .int .i64 k ∧ wr.ownsRow w.heap.size 99 1 r (without id (sb.take k)).length (ptrsV ((without id (sb.take k)).map (·.1))) ∧ Fr No w wr)
  case atStart => exact ⟨0, by omega, rfl, ⟨by simp [ptrsV, without], .inl ⟨rfl, by simp [without]⟩⟩, Fr.refl _ _⟩
  case round =>
    obtain ⟨k, hkk, rfl, hown, hfr⟩ := hrel
    have hszr := hfr.size
    by_cases hlt : k < sb.length
    · have hlt' : (k : Int) < (sb.length : Int) := by omega
      obtain ⟨x, hx⟩ : ∃ x, sb[k]? = some x := ⟨sb[k], by simp [hlt]⟩
      obtain ⟨gA, rfl, hcell⟩ := Hrow.out (by omega)
      have q0 := hfr.cell (hcell k x hx) (fun h => h)
      obtain ⟨bb, cc, r, n, _, _, _, hcb, _, _⟩ := HC.out x (List.mem_of_getElem? hx)
      have q1 : wr.cell? ⟨x.1, 1, none⟩ = some (.int .i64 x.2) := hfr.cell (hcb.cell 1) (fun h => h)
      have htake : sb.take (k + 1) = sb.take k ++ [x] := by rw [List.take_add_one, hx]; rfl
      have hwt : without id (sb.take (k + 1)) = without id (sb.take k) ++ (if x.2 = id then [] else [x]) := by rw [htake, without_snoc]
      have hle : (without id (sb.take k)).length ≤ k := Nat.le_trans (List.length_filter_le _ _) (by simp; omega)
      obtain ⟨L, hL⟩ : ∃ L, without id (sb.take k) = L := ⟨_, rfl⟩
      rw [hL] at hown hle hwt
      by_cases hid : x.2 = id
      · have hide : ((x.2 : Int) == (id : Int)) = true := by simp [hid]
        rw [if_pos hid, List.append_nil] at hwt
        have Hwt := Lib.hid hwt
        clear hcell hx hcb htake hwt hL hid
        go_wp2_with fail
        go_roundg (gk - 1)
        case measure => omega
        case rel =>
          refine ⟨k + 1, by omega, by go_num, ?_, hfr⟩
          rw [Hwt.out]
          exact hown
      · have hide : ((x.2 : Int) == (id : Int)) = false := by simp; omega
        rw [if_neg hid] at hwt
        have Hwt := Lib.hid hwt
        clear hcell hx hcb htake hwt hL hid
        obtain ⟨nL, hnL⟩ : ∃ n, L.length = n := ⟨_, rfl⟩
        have HnL := Lib.hid hnL
        rw [hnL] at hown hle
        clear hnL
        obtain ⟨Ar, cr, rfl, hcr, _⟩ := own_form hown
        go_wp2_with (at_builtin; go_must (refine wpList_app (Pr := fun _ => True) _ rfl (.tmp 22) (.tmp 24) _ rfl w.heap.size 99 _ 1 8 Tryz.underlying35 infoSConnP rfl (by decide) (.slice Ar nL cr) nL (ptrsV (L.map (·.1))) rfl ?a0 _ 1 1 [.pointer (some ⟨x.1, 0, none⟩)] rfl rfl ?a2 ?a3 ?a4 (by decide) ?a5 ?_))
        case a0 => exact hown.alloc _
        case a2 => exact Rd.mono (Rd.newAt rfl rfl) (fun _ _ _ => trivial)
        case a3 => intro u hu; simp at hu; subst hu; rfl
        case a4 => omega
        case a5 => simp; omega
        intro v1 w3 hown3 hf3 _
        have hf23 : Fr No w w3 := (hfr.alloc _).trans hf3 (fun i hi h => by have := (hown.lt i h).1; omega)
        clear hf3
        go_wp2_with fail
        go_roundg (gk - 1)
        case measure => omega
        case rel =>
          refine ⟨k + 1, by omega, by go_num, ?_, hf23⟩
          rw [Hwt.out, List.map_append, List.map_cons, List.map_nil, ptrsV_snoc, List.length_append, HnL.out]
          exact hown3
    · have hlt' : ¬ (k : Int) < (sb.length : Int) := by omega
      obtain rfl : k = sb.length := by omega
      rw [List.take_length] at hown
      obtain ⟨Ar, cr, rfl, hcr, _⟩ := own_form hown
      have hbr := Hb.out.fr hfr (fun h => h)
      have r0 : wr.cell? ⟨g, 10, none⟩ = some (.slice A0 sb.length k0) := hbr.cell 10
      have z0 : wr.frozen? ⟨g, 10, none⟩ = false := hbr.frozen 10
      obtain ⟨hE1, hE2⟩ := HQ.out wr hfr _ hown
      have hsz2 := hE2.size
      have HS := Lib.hid (settle_quiet B _ g p (without id sb) bs ds now hE1 (by omega) hwl)
      have HE2 := Lib.hid hE2
      clear hbr hown hE1 hE2
      go_wp2_with (go_at_call 33; refine HS.out.mono (Hid.out ?_))
      refine Lib.hid ?_
      try simp only [and_imp, forall_exists_index]
      rintro e w2 rfl hq hf2
      go_wp2_with fail
      go_end0
      exact ⟨rfl, hq, HE2.out.trans hf2 (fun _ _ h => h)⟩
end Go.Proofs.YthcbjeeajoliiaaGreatDoor
