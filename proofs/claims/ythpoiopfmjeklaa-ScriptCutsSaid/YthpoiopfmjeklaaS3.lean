/- The walk of script.Encode. -/
import Derived.Test.YthpoiopfmjeklaaS2
set_option linter.unusedVariables false
set_option linter.unusedSimpArgs false
namespace Go.Proofs.Ythpoiopfmjeklaa
open Go.RowKit
open Cr (Str ActM encode encAct)

theorem u8Info : (Try.prog.info? 5).map (fun i => (i.zero, i.size, i.bytes)) = some (some (.int .u8 0), 1, 1) := by kernel_rfl
theorem byV_one (l : Str) : ∀ u ∈ byV l, u.oneCell' = true := by
  intro u hu
  simp only [byV, List.mem_map] at hu
  obtain ⟨x, _, rfl⟩ := hu
  rfl
theorem encAct_le (a : ActM) : (encAct a).length ≤ 258 := by
  unfold encAct
  dsimp only
  split
  · simp; omega
  · simp
theorem encode_le : ∀ l : List ActM, (encode l).length ≤ l.length * 258
  | [] => by simp [encode]
  | a :: l => by
    have := encode_le l
    have := encAct_le a
    simp only [encode, List.length_append, List.length_cons]
    omega
theorem encode_append (l m : List ActM) : encode (l ++ m) = encode l ++ encode m := by
  induction l with
  | nil => rfl
  | cons a l ih => simp only [List.cons_append, encode, ih, List.append_assoc]
theorem encode_take (l : List ActM) (k : Nat) (a : ActM) (h : l[k]? = some a) : encode (l.take (k + 1)) = encode (l.take k) ++ encAct a := by
  rw [List.take_add_one, h]
  simp [encode_append, encode]

set_option maxRecDepth 100000 in
set_option maxHeartbeats 1000000 in
theorem encode_any (A : Option Addr) (c : Nat) (l : List ActM) (w : World) (hr : Rd (fun k => k < w.heap.size) w A (actsV l)) (hc : l.length ≤ c) (hn : l.length ≤ 100000)
    (hd : ∀ a ∈ l, a.data.length ≤ 4611686018427387904) :
    Calls Try.prog 10 #[.slice A l.length c] w fun e w' =>
      ∃ v, e = .returned v ∧ w'.ownsRow w.heap.size 5 1 v (encode l).length (byV (encode l)) ∧ Fr No w w' := by
  go_enter Try.func10, Try.ntmps10
  go_wp2_with fail
  go_loopg [3, 9] l.length (fun gm v i wr => ∃ k : Nat, k + gm = l.length ∧ i = .int .i64 k ∧ wr.ownsRow w.heap.size 5 1 v (encode (l.take k)).length (byV (encode (l.take k))) ∧ Fr No w wr)
  case atStart => exact ⟨0, by omega, rfl, World.ownsRow_nil _ _ _ _, Fr.refl _ _⟩
  case round =>
    obtain ⟨k, hk, rfl, hown, hfr⟩ := hrel
    by_cases hlt : k < l.length
    · have hlt' : (k : Int) < (l.length : Int) := by omega
      obtain ⟨gb, off, rfl, hgb, hcell⟩ := hr.form (fun h => by have := actsV_length l; rw [h] at this; simp at this; omega)
      obtain ⟨a, ha⟩ : ∃ a, l[k]? = some a := ⟨l[k], by simp [hlt]⟩
      have hx := flat_get actV 4 (fun _ => rfl) l k a ha
      have q0 := hfr.cell (hcell (k * 4 + 0) (.int .i64 a.kind) (hx 0 (by omega))) id
      have q1 := hfr.cell (hcell (k * 4 + 1) (.int .i64 a.conn) (hx 1 (by omega))) id
      have q2 := hfr.cell (hcell (k * 4 + 2) (.int .i64 a.n) (hx 2 (by omega))) id
      have q3 := hfr.cell (hcell (k * 4 + 3) (.string ⟨a.data.toArray⟩) (hx 3 (by omega))) id
      simp only [← Nat.add_assoc, Nat.add_zero] at q0 q1 q2 q3
      have hmem := List.mem_of_getElem? ha
      have hdl := hd a hmem
      have e15 := and15 a.kind
      have e15' := and15 a.conn
      have eor := or15 a.kind a.conn
      have hle : (encode (l.take k)).length ≤ k * 258 := by
        have := encode_le (l.take k)
        rw [List.length_take] at this
        omega
      have hb1 : ∀ k', u3.ownBlock = some k' → w.heap.size ≤ k' := fun k' hk' => (hown.lt k' hk').1
      have hsz := hfr.size
      have Hnxt := Lib.hid (encode_take l k a ha)
      by_cases hkd : a.kind % 16 = 1
      · have hkb : (a.kind % 16 == 1) = true := by simpa using hkd
        have eor1 : bits .or .i64 1 (a.conn % 16 * 16) = 1 + a.conn % 16 * 16 := by simpa using or15 1 a.conn
        go_wp2_with (at_builtin; go_must (refine wpList_app (Pr := fun _ => True) _ rfl (.tmp 13) (.tmp 26) _ rfl w.heap.size 5 _ 1 1 Try.underlying26 u8Info rfl Nat.one_pos u3 (encode (l.take k)).length (byV (encode (l.take k))) rfl ?a0 _ 2 2 (byV [UInt8.ofNat ((a.kind % 16 + a.conn % 16 * 16).toNat), UInt8.ofNat (a.n % 256).toNat]) rfl ?a1 ?a2 ?a3 ?a4 Nat.one_pos ?a5 ?_))
        case a0 => exact (hown.alloc _).alloc _
        case a1 => rfl
        case a2 =>
          refine Rd.mono (Rd.newAt (by simp) ?_) (fun _ _ _ => trivial)
          simp [byV]
          omega
        case a3 => exact byV_one _
        case a4 => omega
        case a5 => simp; omega
        intro v1 w1 hown1 hfr1 _
        have hfrw : Fr No w w1 := hfr1.after ((hfr.alloc _).alloc _) (fun k hk h => by have := hb1 k h; omega)
        have hblk : Blk w1 wr.heap.size 29 (actV a).toArray := by
          refine Blk.fr ?_ hfr1 (fun h => by have := (hown.lt _ h).2; omega)
          refine Blk.alloc ?_ _
          simpa [actV] using Blk.new wr _ _
        have p0 := hblk.cell 0
        have p3 := hblk.cell 3
        simp only [actV, List.getElem?_toArray, List.getElem?_cons_zero, List.getElem?_cons_succ] at p0 p3
        have hb2 : ∀ k', v1.ownBlock = some k' → w.heap.size ≤ k' := fun k' hk' => (hown1.lt k' hk').1
        have hsz1 := hfrw.size
        clear hfr1 hown hfr
        have hda : (a.data.length : Int) ≤ 4611686018427387904 := by omega
        by_cases hl : 255 < a.data.length
        · have hl' : (255 : Int) < (a.data.length : Int) := by omega
          obtain ⟨d, hdd⟩ : ∃ d, a.data.take 255 = d := ⟨_, rfl⟩
          have hex : (⟨a.data.toArray⟩ : ByteArray).extract 0 255 = ⟨d.toArray⟩ := by rw [← hdd, ByteArray.extract_mk]; simp
          have hdl2 : (d.length : Int) ≤ 255 := by rw [← hdd]; simp; omega
          have Hdd := Lib.hid hdd
          clear hdd
          go_wp2_with (at_builtin; go_must (refine wpList_app (Pr := fun _ => True) _ rfl (.tmp 39) (.tmp 43) _ rfl w.heap.size 5 _ 1 1 Try.underlying26 u8Info rfl Nat.one_pos v1 ((encode (l.take k)).length + 2) (byV (encode (l.take k)) ++ byV [UInt8.ofNat ((1 + a.conn % 16 * 16).toNat), UInt8.ofNat (a.n % 256).toNat]) rfl ?bd0 _ 1 1 (byV [UInt8.ofNat (d).length]) rfl rfl ?bd2 ?bd3 ?bd4 Nat.one_pos ?bd5 ?_))
          case bd0 => exact hown1.alloc _
          case bd2 => exact Rd.mono (Rd.newAt (by simp) (by simp [byV]; omega)) (fun _ _ _ => trivial)
          case bd3 => exact byV_one _
          case bd4 => omega
          case bd5 => simp; omega
          intro v2 w2 hown2 hfr2 _
          have hb3 : ∀ k', v2.ownBlock = some k' → w.heap.size ≤ k' := fun k' hk' => (hown2.lt k' hk').1
          go_wp2_with (at_builtin; go_must (refine wpList_app_str _ rfl (.tmp 44) (.tmp 45) _ _ rfl w.heap.size 5 Try.underlying26 Try.underlying9 u8Info v2 ((encode (l.take k)).length + 2 + 1) _ rfl hown2 (d) rfl ?bd6 ?bd7 ?_))
          case bd6 => omega
          case bd7 => have := hfr2.size; simp at this; omega
          intro v3 w3 hown3 hfr3
          go_wp2_with fail
          have hfrx : Fr No w w3 := hfr3.after (hfr2.after (hfrw.alloc _) (fun k hk h => by have := hb2 k h; omega)) (fun k hk h => by have := hb3 k h; omega)
          clear hfr3 hfr2
          go_roundg (gk - 1)
          case measure => omega
          case rel =>
            refine ⟨k + 1, by omega, by go_num, ?_, hfrx⟩
            rw [Hnxt.out, byV_append]
            have he : encAct a = [UInt8.ofNat ((a.kind % 16 + a.conn % 16 * 16).toNat), UInt8.ofNat (a.n % 256).toNat] ++ (UInt8.ofNat (d).length :: d) := by
              unfold encAct; simp only [hkd, if_true]; rw [show a.data.take 255 = d from Hdd.out]
            rw [he, hkd]
            have := hown3
            simp only [byV, List.map_append, List.map_cons, List.map_nil, List.append_assoc, List.cons_append, List.nil_append, List.length_append, List.length_cons, List.length_nil] at this ⊢
            rw [show (encode (l.take k)).length + (d.length + 1 + 1 + 1) = (encode (l.take k)).length + 2 + 1 + d.length from by omega]
            exact this
        · have hl' : (a.data.length : Int) ≤ 255 := by omega
          have hex : (⟨a.data.toArray⟩ : ByteArray).extract 0 a.data.length = ⟨a.data.toArray⟩ := by rw [ByteArray.extract_mk]; simp
          go_wp2_with (at_builtin; go_must (refine wpList_app (Pr := fun _ => True) _ rfl (.tmp 39) (.tmp 43) _ rfl w.heap.size 5 _ 1 1 Try.underlying26 u8Info rfl Nat.one_pos v1 ((encode (l.take k)).length + 2) (byV (encode (l.take k)) ++ byV [UInt8.ofNat ((1 + a.conn % 16 * 16).toNat), UInt8.ofNat (a.n % 256).toNat]) rfl ?be0 _ 1 1 (byV [UInt8.ofNat (a.data).length]) rfl rfl ?be2 ?be3 ?be4 Nat.one_pos ?be5 ?_))
          case be0 => exact hown1.alloc _
          case be2 => exact Rd.mono (Rd.newAt (by simp) (by simp [byV]; omega)) (fun _ _ _ => trivial)
          case be3 => exact byV_one _
          case be4 => omega
          case be5 => simp; omega
          intro v2 w2 hown2 hfr2 _
          have hb3 : ∀ k', v2.ownBlock = some k' → w.heap.size ≤ k' := fun k' hk' => (hown2.lt k' hk').1
          go_wp2_with (at_builtin; go_must (refine wpList_app_str _ rfl (.tmp 44) (.tmp 45) _ _ rfl w.heap.size 5 Try.underlying26 Try.underlying9 u8Info v2 ((encode (l.take k)).length + 2 + 1) _ rfl hown2 (a.data) rfl ?be6 ?be7 ?_))
          case be6 => omega
          case be7 => have := hfr2.size; simp at this; omega
          intro v3 w3 hown3 hfr3
          go_wp2_with fail
          have hfrx : Fr No w w3 := hfr3.after (hfr2.after (hfrw.alloc _) (fun k hk h => by have := hb2 k h; omega)) (fun k hk h => by have := hb3 k h; omega)
          clear hfr3 hfr2
          go_roundg (gk - 1)
          case measure => omega
          case rel =>
            refine ⟨k + 1, by omega, by go_num, ?_, hfrx⟩
            rw [Hnxt.out, byV_append]
            have he : encAct a = [UInt8.ofNat ((a.kind % 16 + a.conn % 16 * 16).toNat), UInt8.ofNat (a.n % 256).toNat] ++ (UInt8.ofNat (a.data).length :: a.data) := by
              unfold encAct; simp only [hkd, if_true]; rw [show a.data.take 255 = a.data from List.take_of_length_le (by omega)]
            rw [he, hkd]
            have := hown3
            simp only [byV, List.map_append, List.map_cons, List.map_nil, List.append_assoc, List.cons_append, List.nil_append, List.length_append, List.length_cons, List.length_nil] at this ⊢
            rw [show (encode (l.take k)).length + (a.data.length + 1 + 1 + 1) = (encode (l.take k)).length + 2 + 1 + a.data.length from by omega]
            exact this
      · have hkb : (a.kind % 16 == 1) = false := by simpa using hkd
        go_wp2_with (at_builtin; go_must (refine wpList_app (Pr := fun _ => True) _ rfl _ _ _ rfl w.heap.size 5 _ 1 1 Try.underlying26 u8Info rfl Nat.one_pos u3 (encode (l.take k)).length (byV (encode (l.take k))) rfl ?a0 _ 2 2 (byV [UInt8.ofNat ((a.kind % 16 + a.conn % 16 * 16).toNat), UInt8.ofNat (a.n % 256).toNat]) rfl ?a1 ?a2 ?a3 ?a4 Nat.one_pos ?a5 ?_))
        case a0 => exact (hown.alloc _).alloc _
        case a1 => rfl
        case a2 =>
          refine Rd.mono (Rd.newAt (by simp) ?_) (fun _ _ _ => trivial)
          simp [byV]
          omega
        case a3 => exact byV_one _
        case a4 => omega
        case a5 => simp; omega
        intro v1 w1 hown1 hfr1 _
        have hfrw : Fr No w w1 := hfr1.after ((hfr.alloc _).alloc _) (fun k hk h => by have := hb1 k h; omega)
        have hblk : Blk w1 wr.heap.size 29 (actV a).toArray := by
          refine Blk.fr ?_ hfr1 (fun h => by have := (hown.lt _ h).2; omega)
          refine Blk.alloc ?_ _
          simpa [actV] using Blk.new wr _ _
        clear hfr1 hown hfr eor e15'
        have p0 := hblk.cell 0
        simp only [actV, List.getElem?_toArray, List.getElem?_cons_zero] at p0
        go_wp2_with fail
        go_roundg (gk - 1)
        case measure => omega
        case rel =>
          refine ⟨k + 1, by omega, by go_num, ?_, hfrw⟩
          rw [Hnxt.out, byV_append]
          have he : encAct a = [UInt8.ofNat ((a.kind % 16 + a.conn % 16 * 16).toNat), UInt8.ofNat (a.n % 256).toNat] := by
            unfold encAct; simp [hkd]
          rw [he]
          simpa using hown1
    · go_wp2_with fail
      go_ret
      obtain rfl : k = l.length := by omega
      rw [List.take_length] at hown
      exact ⟨u3, rfl, hown, hfr⟩
end Go.Proofs.Ythpoiopfmjeklaa
