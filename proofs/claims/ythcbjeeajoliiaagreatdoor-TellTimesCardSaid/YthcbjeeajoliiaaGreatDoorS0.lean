/- Plain laws of acts as bytes. -/
import Derived.Test.YthcbjeeajoliiaaGreatDoorM1
set_option linter.unusedSimpArgs false
namespace Go.Proofs.YthcbjeeajoliiaaGreatDoor
namespace Cr

/-- An act as its bytes tell it. -/
def norm (a : ActM) : ActM := ⟨a.kind % 16, a.conn % 16, a.n % 256, if a.kind % 16 = 1 then a.data.take 255 else []⟩

theorem byte_of (n : Int) (h0 : 0 ≤ n) (h1 : n < 256) : ((UInt8.ofNat n.toNat).toNat : Int) = n := by
  rw [UInt8.toNat_ofNat']
  omega

theorem decAct_enc (a : ActM) (r : Str) : ∃ x b, encAct a ++ r = x :: b ∧ decAct x b = (norm a, r) := by
  have hx := byte_of (a.kind % 16 + a.conn % 16 * 16) (by omega) (by omega)
  have hn := byte_of (a.n % 256) (by omega) (by omega)
  by_cases hk : a.kind % 16 = 1
  · refine ⟨UInt8.ofNat (a.kind % 16 + a.conn % 16 * 16).toNat, UInt8.ofNat (a.n % 256).toNat :: UInt8.ofNat (a.data.take 255).length :: (a.data.take 255 ++ r), ?_, ?_⟩
    · unfold encAct; simp [hk]
    · have hl := byte_of ((a.data.take 255).length : Int) (by omega) (by simp; omega)
      rw [Int.toNat_natCast] at hl
      have hl' : (UInt8.ofNat (a.data.take 255).length).toNat = (a.data.take 255).length := by omega
      unfold decAct norm
      rw [hx]
      have e1 : (1 + a.conn % 16 * 16) % 16 = 1 := by omega
      have e2 : (1 + a.conn % 16 * 16) / 16 = a.conn % 16 := by omega
      simp only [hk, e1, e2, if_true, List.headD_cons, List.tail_cons, hn, hl', List.length_append]
      rw [Nat.min_eq_left (by omega)]
      simp
  · refine ⟨UInt8.ofNat (a.kind % 16 + a.conn % 16 * 16).toNat, UInt8.ofNat (a.n % 256).toNat :: r, ?_, ?_⟩
    · unfold encAct; simp [hk]
    · unfold decAct norm
      rw [hx]
      have e1 : ¬ (a.kind % 16 + a.conn % 16 * 16) % 16 = 1 := by omega
      have e2 : (a.kind % 16 + a.conn % 16 * 16) / 16 = a.conn % 16 := by omega
      have e3 : (a.kind % 16 + a.conn % 16 * 16) % 16 = a.kind % 16 := by omega
      simp only [e1, e2, hk, if_false, List.headD_cons, List.tail_cons, hn, e3]

theorem decode_encode (l : List ActM) (r : Str) : decodeAll (encode l ++ r) = l.map norm ++ decodeAll r := by
  induction l with
  | nil => rfl
  | cons a l ih =>
    obtain ⟨x, b, h1, h2⟩ := decAct_enc a (encode l ++ r)
    simp only [encode, List.append_assoc]
    rw [h1, decodeAll_cons, h2]
    simp [ih]

theorem decode_encode' (l : List ActM) : decodeAll (encode l) = l.map norm := by
  have := decode_encode l []
  simpa [decodeAll_nil] using this

theorem norm_norm (a : ActM) : norm (norm a) = norm a := by
  unfold norm
  by_cases hk : a.kind % 16 = 1 <;> simp [hk, List.take_take]

theorem encAct_norm (a : ActM) : encAct (norm a) = encAct a := by
  unfold encAct norm
  by_cases hk : a.kind % 16 = 1 <;> simp [hk, List.take_take]

theorem encode_norm (l : List ActM) : encode (l.map norm) = encode l := by
  induction l with
  | nil => rfl
  | cons a l ih => simp only [List.map_cons, encode, encAct_norm, ih]

theorem decAct_norm (x : UInt8) (b : Str) : norm (decAct x b).1 = (decAct x b).1 := by
  have h := x.toNat_lt
  have hb := (b.headD 0).toNat_lt
  unfold decAct norm
  by_cases hk : (x.toNat : Int) % 16 = 1
  · simp only [hk, if_true]
    have h2 := (b.tail.headD 0).toNat_lt
    rw [List.take_take]
    simp only [ActM.mk.injEq]
    refine ⟨by omega, by omega, by omega, ?_⟩
    rw [if_pos (by omega)]
    congr 1
    omega
  · simp only [hk, if_false]
    simp only [ActM.mk.injEq]
    refine ⟨by omega, by omega, by omega, ?_⟩
    rw [if_neg (by omega)]

theorem decode_norm : ∀ (k : Nat) (b : Str), (decode k b).map norm = decode k b
  | 0, _ => rfl
  | _ + 1, [] => rfl
  | k + 1, x :: b => by
    simp only [decode, List.map_cons, decAct_norm, decode_norm k]

theorem decodeAll_norm (b : Str) : (decodeAll b).map norm = decodeAll b := decode_norm _ _

theorem decode_length : ∀ (k : Nat) (b : Str), (decode k b).length ≤ b.length
  | 0, _ => by simp [decode]
  | _ + 1, [] => by simp [decode]
  | k + 1, x :: b => by
    have h1 := decode_length k (decAct x b).2
    have h2 := decAct_le x b
    simp only [decode, List.length_cons]
    omega

theorem decodeAll_again (b : Str) : decodeAll (encode (decodeAll b)) = decodeAll b := by
  rw [decode_encode', decodeAll_norm]

theorem decodeAll_empty (b : Str) : (decodeAll b).length = 0 ↔ b.length = 0 := by
  cases b with
  | nil => simp [decodeAll_nil]
  | cons x b => rw [decodeAll_cons]; simp

theorem decode_bounds (b : Str) : ∀ a ∈ decodeAll b, 0 ≤ a.kind ∧ a.kind ≤ 15 ∧ 0 ≤ a.conn ∧ a.conn ≤ 15 ∧ 0 ≤ a.n ∧ a.n ≤ 255 ∧ a.data.length ≤ 255 := by
  intro a ha
  rw [← decodeAll_norm] at ha
  obtain ⟨a', _, rfl⟩ := List.mem_map.1 ha
  unfold norm
  refine ⟨by simp only; omega, by simp only; omega, by simp only; omega, by simp only; omega, by simp only; omega, by simp only; omega, ?_⟩
  dsimp only
  split
  · simp; omega
  · simp

/-- A part of an act's bytes, not all: one act, nothing behind it. -/
theorem decAct_part (a : ActM) (p q : Str) (h : encAct a = p ++ q) (hp : p ≠ []) (hq : q ≠ []) : (decodeAll p).length = 1 := by
  cases p with
  | nil => exact absurd rfl hp
  | cons x b =>
    rw [decodeAll_cons]
    have hx := byte_of (a.kind % 16 + a.conn % 16 * 16) (by omega) (by omega)
    suffices hr : (decAct x b).2 = [] by rw [hr, decodeAll_nil]; rfl
    unfold encAct at h
    by_cases hk : a.kind % 16 = 1
    · simp only [hk, if_true, List.cons_append, List.nil_append, List.cons.injEq] at h
      obtain ⟨rfl, h⟩ := h
      rw [hk] at hx
      unfold decAct
      rw [hx]
      have e1 : (1 + a.conn % 16 * 16) % 16 = 1 := by omega
      simp only [e1, if_true]
      cases b with
      | nil => simp
      | cons y b =>
        simp only [List.cons_append, List.cons.injEq] at h
        obtain ⟨rfl, h⟩ := h
        cases b with
        | nil => simp
        | cons z b =>
          simp only [List.cons_append, List.cons.injEq] at h
          obtain ⟨rfl, h⟩ := h
          have hl := byte_of ((a.data.take 255).length : Int) (by omega) (by simp; omega)
          rw [Int.toNat_natCast] at hl
          have hlen := congrArg List.length h
          rw [List.length_append] at hlen
          simp only [List.tail_cons, List.headD_cons]
          rw [List.drop_of_length_le (by omega)]
    · simp only [hk, if_false, List.append_nil, List.cons_append, List.cons.injEq] at h
      obtain ⟨rfl, h⟩ := h
      unfold decAct
      rw [hx]
      have e1 : ¬ (a.kind % 16 + a.conn % 16 * 16) % 16 = 1 := by omega
      simp only [e1, if_false]
      cases b with
      | nil => rfl
      | cons y b =>
        have := congrArg List.length h
        simp only [List.length_cons, List.length_nil, List.length_append] at this
        have : q.length = 0 := by omega
        exact absurd (List.eq_nil_of_length_eq_zero this) hq

end Cr
end Go.Proofs.YthcbjeeajoliiaaGreatDoor
