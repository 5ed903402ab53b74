/- trie: word. -/
import Derived.Test.YthcbjeeajoliiaaGreatDoorT2
import Derived.Test.YthcbjeeajoliiaaGreatDoorR3
set_option linter.unusedVariables false
set_option linter.unusedSimpArgs false
namespace Go.Proofs.YthcbjeeajoliiaaGreatDoor
open Go.RowKit
open Cr (Str Rou)

/-- The function value that put hands on. -/
def onV (b1 b2 : Nat) : Value := .func (.func 137) #[] #[.pointer (some ⟨b1, 0, none⟩), .pointer (some ⟨b2, 0, none⟩)]

theorem NodeAt.over {P P' S : Nat → Prop} {N N' : Nat} {w w' : World} {q : Option Addr} {n : Option Cr.Node} (h : NodeAt P N w q n) (hf : Fr S w w') (hS : ∀ k, P k → ¬ S k) (hN : N ≤ N') (hP : ∀ k, P k → P' k) : NodeAt P' N' w' q n :=
  (h.fr hf hS).mono hN (fun k _ hk => hP k hk)
theorem Rd.over {P P' S : Nat → Prop} {w w' : World} {A : Option Addr} {xs : List Value} (h : Rd P w A xs) (hf : Fr S w w') (hS : ∀ k, P k → ¬ S k) (hP : ∀ k, P k → P' k) : Rd P' w' A xs :=
  (h.fr hf hS).mono (fun k _ hk => hP k hk)

/-- A call of a function value turns what m leads to into f m. -/
def OnCalls (N : Nat) (w0 : World) (b1 b2 : Nat) (f : Option Cr.Node → Cr.Node) : Prop :=
  ∀ (P : Nat → Prop) (W : World) (q : Option Addr) (m : Option Cr.Node), Fr No w0 W → NodeAt P N W q m →
    Calls Tryz.prog 137 #[.pointer q, .pointer (some ⟨b1, 0, none⟩), .pointer (some ⟨b2, 0, none⟩)] W fun e W' => ∃ g, e = .returned (.pointer (some ⟨g, 0, none⟩)) ∧ NodeAt (fun k => P k ∨ W.heap.size ≤ k) (N + 1) W' (some ⟨g, 0, none⟩) (some (f m)) ∧ Fr No W W'

def WordHolds (N : Nat) (w0 : World) (b1 b2 : Nat) (f : Option Cr.Node → Cr.Node) (k : Nat) : Prop :=
  ∀ (P : Nat → Prop) (s : Str) (q : Option Addr) (n : Option Cr.Node) (w : World), s.length < k → s.length ≤ 1000000 → Fr No w0 w → NodeAt P N w q n →
    Calls Tryz.prog 138 #[.pointer q, .string ⟨s.toArray⟩, .func (.func 137) #[] #[.pointer (some ⟨b1, 0, none⟩), .pointer (some ⟨b2, 0, none⟩)]] w fun e w' =>
      ∃ g, e = .returned (.pointer (some ⟨g, 0, none⟩)) ∧ NodeAt (fun k => P k ∨ w.heap.size ≤ k) (N + 1) w' (some ⟨g, 0, none⟩) (some (Cr.wordGo f k (nodeOr n) s)) ∧ Fr No w w'

theorem find_none (es : List (Str × Cr.Node)) (s : Str) (h : ∀ x ∈ es, Cr.common x.1 s = 0) : es.findIdx? (fun x => Cr.common x.1 s ≠ 0) = none := by
  rw [List.findIdx?_eq_none_iff]
  intro x hx
  simp [h x hx]
theorem find_some (es : List (Str × Cr.Node)) (s : Str) (i : Nat) (t : Str) (m : Cr.Node) (h : ∀ x ∈ es.take i, Cr.common x.1 s = 0) (hi : es[i]? = some (t, m)) (hc : Cr.common t s ≠ 0) : es.findIdx? (fun x => Cr.common x.1 s ≠ 0) = some i := by
  rw [List.findIdx?_eq_some_iff_getElem]
  obtain ⟨h1, h2⟩ := List.getElem?_eq_some_iff.1 hi
  refine ⟨h1, by simpa [h2] using hc, fun j hj => ?_⟩
  have := h es[j] (by rw [List.mem_take_iff_getElem]; exact ⟨j, by omega, rfl⟩)
  simp [this]

theorem CopyAt.rowNe {P : Nat → Prop} {N base : Nat} {w : World} {g : Nat} {A : Option Addr} {c : Nat} {pn pp pr D : Option Addr} {ps : List (Str × Option Addr)} {es : List (Str × Cr.Node)} {nx p r : Option Cr.Node} {ends : List Rou}
    (h : CopyAt P N base w g A c pn pp pr D ps es nx p r ends) : ∀ i, (Value.slice A es.length c).ownBlock = some i → ¬ i = g := by
  rintro i hi rfl
  rcases h.own.2 with ⟨h1, _⟩ | ⟨g', cap, cur, h1, _, hh, _⟩
  · injection h1 with h1
    subst h1
    simp [Value.ownBlock] at hi
  · injection h1 with h1
    subst h1
    simp [Value.ownBlock] at hi
    subst hi
    exact absurd (h.hb.symm.trans hh) (by simp)

theorem CopyAt.setEdge {P : Nat → Prop} {N base : Nat} {w : World} {g gA : Nat} {c : Nat} {pn pp pr D : Option Addr} {ps : List (Str × Option Addr)} {es : List (Str × Cr.Node)} {nx p r : Option Cr.Node} {ends : List Rou}
    (h : CopyAt P N base w g (some ⟨gA, 0, none⟩) c pn pp pr D ps es nx p r ends) (hPlt : ∀ i, P i → i < base) (hgA : base ≤ gA) {j : Nat} {t : Str} {m : Cr.Node} {q' : Option Addr} (hx : es[j]? = some (t, m)) (hq : ps[j]? = some (t, q'))
    (t' : Str) (ht' : t'.length ≤ 1000000) (m' : Cr.Node) (p4 : Option Addr) (w5 : World) (hrow : w5.ownsRow base 256 2 (.slice (some ⟨gA, 0, none⟩) es.length c) es.length (edgsV (ps.set j (t', p4))))
    (hfs : Fr (fun i => i = gA) w w5) (hn : NodeAt (fun i => P i ∨ base ≤ i) (N + 1) w5 p4 (some m')) :
    NodeAt (fun i => P i ∨ base ≤ i) (N + 1) w5 (some ⟨g, 0, none⟩) (some (.mk (es.set j (t', m')) nx p r ends)) := by
  have hgne : ¬ g = gA := fun e => h.rowNe gA rfl e.symm
  have hPn : ∀ i, P i → ¬ i = gA := fun i hi e => by have := hPlt i hi; omega
  have hb5 := h.hb.fr hfs hgne
  have hjl : j < es.length := (List.getElem?_eq_some_iff.1 hx).1
  have hpl : ps.length = es.length := by simpa using congrArg List.length h.hps
  refine NodeAt.mk (P := fun i => P i ∨ base ≤ i) g (some ⟨gA, 0, none⟩) D c ends.length pn pp pr (es.set j (t', m')) (ps.set j (t', p4)) nx p r ends (.inr h.hg) (by rw [List.length_set]; exact hb5) (by rw [List.length_set]; exact hrow.capOf) (Nat.le_refl _)
    (fun h => by cases h) ?_ (by rw [List.length_set]; have := h.hN; omega) (by have := h.hM; omega) ?_ (hrow.rd (fun i hi => .inr hi)) (h.hD.over hfs hPn (fun i hi => .inl hi)) ?_
    (h.hn.over hfs hPn (by omega) (fun i hi => .inl hi)) (h.hp.over hfs hPn (by omega) (fun i hi => .inl hi)) (h.hr.over hfs hPn (by omega) (fun i hi => .inl hi))
  · rw [List.map_set, List.map_set, h.hps]
  · intro x hx'
    rcases List.mem_or_eq_of_mem_set hx' with hx' | rfl
    · exact h.ht x hx'
    · exact ht'
  · intro i t1 m1 q1 h1 h2
    by_cases hij : j = i
    · subst hij
      rw [List.getElem?_set_self hjl] at h1
      rw [List.getElem?_set_self (by omega)] at h2
      injection h1 with h1
      injection h2 with h2
      injection h1 with _ h1
      injection h2 with _ h2
      subst h1 h2
      exact hn
    · rw [List.getElem?_set_ne hij] at h1 h2
      exact (h.hes i t1 m1 q1 h1 h2).over hfs hPn (by omega) (fun i hi => .inl hi)

theorem wordGo_hit (f : Option Cr.Node → Cr.Node) (k : Nat) (es : List (Str × Cr.Node)) (nx p r : Option Cr.Node) (ends : List Rou) (s : Str) (j : Nat) (t : Str) (m : Cr.Node) (hne : s ≠ [])
    (hfind : es.findIdx? (fun x => Cr.common x.1 s ≠ 0) = some j) (hx : es[j]? = some (t, m)) :
    Cr.wordGo f (k + 1) (.mk es nx p r ends) s = if Cr.common t s = t.length then .mk (es.set j (t, Cr.wordGo f k m (s.drop (Cr.common t s)))) nx p r ends
      else .mk (es.set j (t.take (Cr.common t s), Cr.wordGo f k (.mk [(t.drop (Cr.common t s), m)] none none none []) (s.drop (Cr.common t s)))) nx p r ends := by
  simp only [Cr.wordGo]
  rw [if_neg hne, hfind]
  simp only [hx]
theorem wordGo_miss (f : Option Cr.Node → Cr.Node) (k : Nat) (es : List (Str × Cr.Node)) (nx p r : Option Cr.Node) (ends : List Rou) (s : Str) (hne : s ≠ [])
    (hfind : es.findIdx? (fun x => Cr.common x.1 s ≠ 0) = none) :
    Cr.wordGo f (k + 1) (.mk es nx p r ends) s = .mk (es ++ [(s, .mk [] (some (f none)) none none [])]) nx p r ends := by
  simp only [Cr.wordGo]
  rw [if_neg hne, hfind]

theorem mid_at {P : Nat → Prop} {N : Nat} (hN1 : 1 ≤ N) (w3 : World) (t : Str) (m : Cr.Node) (q' : Option Addr) (ht : t.length ≤ 1000000) (hm : NodeAt P N w3 q' (some m)) :
    NodeAt (fun i => P i ∨ w3.heap.size ≤ i) N ((w3.alloc (.cells #[.string ⟨t.toArray⟩, .pointer q'] 256)).alloc (.cells #[.slice (some ⟨w3.heap.size, 0, none⟩) 1 1, .pointer none, .pointer none, .pointer none, .slice none 0 0] 226)).drew (some ⟨w3.heap.size + 1, 0, none⟩) (some (.mk [(t, m)] none none none [])) ∧
    Fr No w3 ((w3.alloc (.cells #[.string ⟨t.toArray⟩, .pointer q'] 256)).alloc (.cells #[.slice (some ⟨w3.heap.size, 0, none⟩) 1 1, .pointer none, .pointer none, .pointer none, .slice none 0 0] 226)).drew := by
  have hf1 : Fr No (w3.alloc (.cells #[.string ⟨t.toArray⟩, .pointer q'] 256)) ((w3.alloc (.cells #[.string ⟨t.toArray⟩, .pointer q'] 256)).alloc (.cells #[.slice (some ⟨w3.heap.size, 0, none⟩) 1 1, .pointer none, .pointer none, .pointer none, .slice none 0 0] 226)).drew := ((Fr.refl _ _).alloc _).drew
  have hf : Fr No w3 ((w3.alloc (.cells #[.string ⟨t.toArray⟩, .pointer q'] 256)).alloc (.cells #[.slice (some ⟨w3.heap.size, 0, none⟩) 1 1, .pointer none, .pointer none, .pointer none, .slice none 0 0] 226)).drew := (((Fr.refl _ _).alloc _).alloc _).drew
  have hb : Blk ((w3.alloc (.cells #[.string ⟨t.toArray⟩, .pointer q'] 256)).alloc (.cells #[.slice (some ⟨w3.heap.size, 0, none⟩) 1 1, .pointer none, .pointer none, .pointer none, .slice none 0 0] 226)).drew (w3.heap.size + 1) 226 #[.slice (some ⟨w3.heap.size, 0, none⟩) 1 1, .pointer none, .pointer none, .pointer none, .slice none 0 0] := by
    have := Blk.new (w3.alloc (.cells #[.string ⟨t.toArray⟩, .pointer q'] 256)) 226 #[.slice (some ⟨w3.heap.size, 0, none⟩) 1 1, .pointer none, .pointer none, .pointer none, .slice none 0 0]
    rw [World.size_alloc] at this
    exact this
  have hE : Rd (fun i => P i ∨ w3.heap.size ≤ i) ((w3.alloc (.cells #[.string ⟨t.toArray⟩, .pointer q'] 256)).alloc (.cells #[.slice (some ⟨w3.heap.size, 0, none⟩) 1 1, .pointer none, .pointer none, .pointer none, .slice none 0 0] 226)).drew (some ⟨w3.heap.size, 0, none⟩) (edgsV [(t, q')]) :=
    ((Rd.newAt (w := w3) (t := 256) (cs := #[.string ⟨t.toArray⟩, .pointer q']) rfl rfl).fr hf1 (fun _ _ h => h)).mono (fun k _ hk => .inr (by omega))
  refine ⟨NodeAt.mk (P := fun i => P i ∨ w3.heap.size ≤ i) (w3.heap.size + 1) (some ⟨w3.heap.size, 0, none⟩) none 1 0 none none none [(t, m)] [(t, q')] none none none [] (.inr (by omega)) hb (by simp) (by simp) (fun h => by cases h) rfl (by simpa using hN1) (by simp) (by simpa using ht) hE (Rd.nil _ _ _) ?_ .nil .nil .nil, hf⟩
  intro i t1 m1 q1 h1 h2
  cases i with
  | zero =>
    simp only [List.getElem?_cons_zero, Option.some.injEq, Prod.mk.injEq] at h1 h2
    obtain ⟨_, rfl⟩ := h1
    obtain ⟨_, rfl⟩ := h2
    exact hm.over hf (fun _ _ h => h) (Nat.le_refl _) (fun _ h => .inl h)
  | succ i => simp at h1

set_option maxRecDepth 100000 in
set_option maxHeartbeats 4000000 in
theorem word_step (N : Nat) (w0 : World) (b1 b2 : Nat) (f : Option Cr.Node → Cr.Node) (hF : OnCalls N w0 b1 b2 f) (hN1 : 1 ≤ N) (hN : N ≤ 900000)
    (k : Nat) (ih : WordHolds N w0 b1 b2 f k) : WordHolds N w0 b1 b2 f (k + 1) := by
  intro P s q n w hk hs hf0 hnode0
  have hnode : NodeAt (fun i => P i ∧ i < w.heap.size) N w q n := hnode0.mono (Nat.le_refl _) (fun i hi hp => ⟨hp, hi⟩)
  have HF := Lib.hid hF
  have IH := Lib.hid ih
  have HC := Lib.hid (copied_at (fun i => P i ∧ i < w.heap.size) N w q n hnode (by omega))
  have hs' : (s.length : Int) ≤ 1000000 := by omega
  have hsz0 := hf0.size
  clear hF ih hnode hnode0
  go_enter Tryz.func138, Tryz.ntmps138
  go_wp2_with (go_at_call 136; refine HC.out.mono ?_)
  rintro e w1 ⟨g, A, c, pn, pp, pr, D, ps, es, nx, p, r, ends, rfl, hnd, hcp, hf1⟩
  have Hnd := Lib.hid hnd
  clear hnd HC
  have hf01 := hf0.trans hf1 (fun _ _ h => h)
  have hsz1 := hf1.size
  have hg := hcp.hg
  have hglt := hcp.hb.lt
  cases s with
  | nil =>
    have c1 : w1.cell? ⟨g, 1, none⟩ = some (.pointer pn) := hcp.hb.cell 1
    have HK := Lib.hid (HF.out _ w1 pn nx hf01 hcp.hn)
    go_wp2_with (go_at_call 137; refine HK.out.mono ?_)
    rintro e w2 ⟨g2, rfl, hn2, hf2⟩
    have hcp2 := hcp.no hf2
    have c2 : w2.cell? ⟨g, 1, none⟩ = some (.pointer pn) := hcp2.hb.cell 1
    have z2 : w2.frozen? ⟨g, 1, none⟩ = false := hcp2.hb.frozen 1
    go_wp2_with fail
    go_ret
    have hfs : Fr (fun i => i = g) w2 (w2.setCell ⟨g, 1, none⟩ (.pointer (some ⟨g2, 0, none⟩))) := by
      refine Fr.setCell (Fr.refl _ _) ?_ _
      intro _; rfl
    refine ⟨g, rfl, ?_, (hf1.trans hf2 (fun _ _ h => h)).trans hfs (fun i hi h => by omega)⟩
    rw [Hnd.out]
    have hg2 : ∀ i, (P i ∧ i < w.heap.size) → ¬ i = g := fun i hi h => by omega
    have hAg := hcp2.rowNe
    have hb3 := hcp2.hb.set_ 1 (.pointer (some ⟨g2, 0, none⟩))
    have hrd := (hcp2.own.fr hfs hAg).rd (P := fun i => P i ∨ w.heap.size ≤ i) (fun i hi => .inr hi)
    refine NodeAt.mk (P := fun i => P i ∨ w.heap.size ≤ i) g A D c ends.length (some ⟨g2, 0, none⟩) pp pr es ps (some (f nx)) p r ends (.inr hg) hb3 hcp2.own.capOf (Nat.le_refl _) (fun h => hcp2.own.nilOf h) hcp2.hps (by have := hcp2.hN; omega) (by have := hcp2.hM; omega) hcp2.ht hrd
      (hcp2.hD.over hfs hg2 (fun i hi => .inl hi.1)) (fun i t m q' h1 h2 => (hcp2.hes i t m q' h1 h2).over hfs hg2 (by omega) (fun i hi => .inl hi.1)) ?_ (hcp2.hp.over hfs hg2 (by omega) (fun i hi => .inl hi.1)) (hcp2.hr.over hfs hg2 (by omega) (fun i hi => .inl hi.1))
    exact hn2.over hfs (fun i hi h => by rcases hi with hi | hi <;> omega) (Nat.le_refl _) (fun i hi => hi.elim (fun h => .inl h.1) (fun h => .inr (by omega)))
  | cons s0 s1 =>
    have hne0 : (s0 :: s1 : Str) ≠ [] := by simp
    have Hne := Lib.hid hne0
    have hse : (s0 :: s1 : Str).isEmpty = false := rfl
    obtain ⟨s, hss⟩ : ∃ s, s0 :: s1 = s := ⟨_, rfl⟩
    rw [hss] at hs hk hs' Hne hse ⊢
    have Hss := Lib.hid hss
    clear hss hne0
    have c0 : w1.cell? ⟨g, 0, none⟩ = some (.slice A es.length c) := hcp.hb.cell 0
    have hesl : (es.length : Int) ≤ 900000 := by have := hcp.hN; omega
    go_wp2_with fail
    go_loopg [32] es.length (fun gm i wr => ∃ (j : Nat), j + gm = es.length ∧ i = .int .i64 j ∧ Fr No w1 wr ∧ Hid (∀ x ∈ es.take j, Cr.common x.1 s = 0))
    case atStart => exact ⟨0, by omega, rfl, Fr.refl _ _, (by simp : ∀ x ∈ es.take 0, Cr.common x.1 s = 0)⟩
    case round =>
      obtain ⟨j, hj, rfl, hfr, HI⟩ := hrel
      have hcpr := hcp.no hfr
      have hfr1 := hf1.trans hfr (fun _ _ h => h)
      have hfr01 := hf0.trans hfr1 (fun _ _ h => h)
      by_cases hlt : j < es.length
      · have hlt' : (j : Int) < (es.length : Int) := by omega
        obtain ⟨⟨t, m⟩, hx⟩ : ∃ x, es[j]? = some x := ⟨es[j], by simp [hlt]⟩
        obtain ⟨q', hq⟩ : ∃ q', ps[j]? = some (t, q') := by
          have h1 : (ps.map (·.1))[j]? = some t := by rw [hcp.hps, List.getElem?_map, hx]; rfl
          rw [List.getElem?_map] at h1
          obtain ⟨⟨t', q'⟩, h2, h3⟩ := Option.map_eq_some_iff.1 h1
          exact ⟨q', by rw [h2, ← h3]⟩
        have hown := hcpr.own
        obtain ⟨gA, cA, hAe, hcA, hgA, hgAl⟩ := hown.ofPos (by omega)
        injection hAe with hAe _ hce
        subst hAe hce
        have hfl := flat_get edgV 2 (fun _ => rfl) ps j (t, q') hq
        have e0 : wr.cell? ⟨gA, j * 2, none⟩ = some (.string ⟨t.toArray⟩) := hown.at_ (hfl 0 (by omega))
        have e1 : wr.cell? ⟨gA, j * 2 + 1, none⟩ = some (.pointer q') := hown.at_ (hfl 1 (by omega))
        have htl := hcp.ht _ (List.mem_of_getElem? hx)
        dsimp only at htl
        have hcl := common_le t s
        have hmid := hcpr.hes j t m q' hx hq
        have HCm := Lib.hid (fun W => common_any W t s htl hs)
        have hzero : Cr.common t s = 0 → ∀ x ∈ es.take (j + 1), Cr.common x.1 s = 0 := fun h0 x hxx => by
          rw [List.take_add_one, hx] at hxx
          simp only [Option.toList_some, List.mem_append, List.mem_singleton] at hxx
          rcases hxx with hxx | rfl
          · exact HI.out x hxx
          · exact h0
        have hfind : Cr.common t s ≠ 0 → es.findIdx? (fun x => Cr.common x.1 s ≠ 0) = some j := find_some es s j t m HI.out hx
        obtain ⟨cm, hcm⟩ : ∃ cm, Cr.common t s = cm := ⟨_, rfl⟩
        rw [hcm] at HCm hcl hzero hfind
        have Hcm := Lib.hid hcm
        have Hzero := Lib.hid hzero
        have Hfind := Lib.hid hfind
        have Hx := Lib.hid hx
        have Hq := Lib.hid hq
        clear hcm hzero hfind hx hq hfl HI
        have hcmt : (cm : Int) ≤ (t.length : Int) := by omega
        have htl' : (t.length : Int) ≤ 1000000 := by omega
        go_wp2_with (go_at_call 173; refine (HCm.out _).mono ?_)
        rintro e w3 rfl hf3
        obtain ⟨ge, hge⟩ : ∃ ge, wr.heap.size = ge := ⟨_, rfl⟩
        have hbe := (Blk.new wr 256 #[.string ⟨t.toArray⟩, .pointer q']).fr hf3 id
        rw [hge] at hbe ⊢
        have hf3' : Fr No wr w3 := ((Fr.refl _ _).alloc _).trans hf3 (fun _ _ h => h)
        have hcp3 := hcpr.no hf3'
        have hmid3 := hmid.no hf3'
        have hfw3 := hfr1.trans hf3' (fun _ _ h => h)
        have hfw03 := hfr01.trans hf3' (fun _ _ h => h)
        have d0 : w3.cell? ⟨ge, 0, none⟩ = some (.string ⟨t.toArray⟩) := hbe.cell 0
        have d1 : w3.cell? ⟨ge, 1, none⟩ = some (.pointer q') := hbe.cell 1
        have g0 : w3.cell? ⟨g, 0, none⟩ = some (.slice (some ⟨gA, 0, none⟩) es.length c) := hcp3.hb.cell 0
        have hgge : g < ge := by have := hfr.size; omega
        clear hf3
        by_cases hc0 : cm = 0
        · subst hc0
          go_wp2_with fail
          go_roundg (gk - 1)
          case measure => omega
          case rel => exact ⟨j + 1, by omega, by go_num, hfr.trans hf3' (fun _ _ h => h), Hzero.out (by simp)⟩
        · have hc0' : ((cm : Int) == 0) = false := by rw [beq_eq_false_iff_ne]; omega
          by_cases hct : cm = t.length
          · have hct' : ((cm : Int) == (t.length : Int)) = true := by rw [beq_iff_eq]; omega
            have Hct := Lib.hid hct
            clear hct
            have hsl := run_str_from (P := Tryz.prog) 9 Tryz.underlying9 s cm (by omega)
            have g0' : w3.drew.cell? ⟨g, 0, none⟩ = some (.slice (some ⟨gA, 0, none⟩) es.length c) := g0
            have d1' : w3.drew.cell? ⟨ge, 1, none⟩ = some (.pointer q') := d1
            have HIH := Lib.hid (IH.out _ (s.drop cm) q' (some m) w3.drew (by rw [List.length_drop]; omega) (by rw [List.length_drop]; omega) hfw03.drew (hmid3.no (Fr.refl _ _).drew))
            go_wp2_with fail
            refine wp_region_z (Fr No) (.read 0 (.read 1 (.read 2 (.read 3 (.read 4 (.read 5 (.read 6 (.read 7 (.read 8 (.read 9 (.read 10 (.eff 11 (.pure 12 (.read 13 (.last 14))))))))))))))) (by rfl) (PlanRel.refl _) (PlanRel.trans _) (by intro c a d v w h; cases d <;> exact h) (by kernel_rfl) (fun s hs => ?_) (by kernel_rfl)
            simp only [zOf, List.getElem?_toArray, List.getElem?_cons_succ, List.getElem?_cons_zero, Option.some.injEq] at hs
            subst hs
            refine z_reads ?_ (by rfl) (fun w' hR => ?_) ?_
            rotate_left
            · (go_simp; try with_reducible rfl)
            simp only [Act.put, List.setIfInBounds_toArray, List.set_cons_zero, List.set_cons_succ]
            refine z_reads ?_ (by rfl) (fun w' hR => ?_) ?_
            rotate_left
            · (go_simp; try with_reducible rfl)
            simp only [Act.put, List.setIfInBounds_toArray, List.set_cons_zero, List.set_cons_succ]
            refine z_reads ?_ (by rfl) (fun w' hR => ?_) ?_
            rotate_left
            · (go_simp; try with_reducible rfl)
            simp only [Act.put, List.setIfInBounds_toArray, List.set_cons_zero, List.set_cons_succ]
            refine z_reads ?_ (by rfl) (fun w' hR => ?_) ?_
            rotate_left
            · have hk := hR.cell g0' id
              (go_simp; try with_reducible rfl)
            simp only [Act.put, List.setIfInBounds_toArray, List.set_cons_zero, List.set_cons_succ]
            refine z_reads ?_ (by rfl) (fun w' hR => ?_) ?_
            rotate_left
            · (go_simp; try with_reducible rfl)
            simp only [Act.put, List.setIfInBounds_toArray, List.set_cons_zero, List.set_cons_succ]
            refine z_reads ?_ (by rfl) (fun w' hR => ?_) ?_
            rotate_left
            · (go_simp; try with_reducible rfl)
            simp only [Act.put, List.setIfInBounds_toArray, List.set_cons_zero, List.set_cons_succ]
            refine z_reads ?_ (by rfl) (fun w' hR => ?_) ?_
            rotate_left
            · have hk := hR.cell d1' id
              (go_simp; try with_reducible rfl)
            simp only [Act.put, List.setIfInBounds_toArray, List.set_cons_zero, List.set_cons_succ]
            refine z_reads ?_ (by rfl) (fun w' hR => ?_) ?_
            rotate_left
            · (go_simp; try with_reducible rfl)
            simp only [Act.put, List.setIfInBounds_toArray, List.set_cons_zero, List.set_cons_succ]
            refine z_reads ?_ (by rfl) (fun w' hR => ?_) ?_
            rotate_left
            · (go_simp; try with_reducible rfl)
            simp only [Act.put, List.setIfInBounds_toArray, List.set_cons_zero, List.set_cons_succ]
            refine z_reads ?_ (by rfl) (fun w' hR => ?_) ?_
            rotate_left
            · (go_simp; try with_reducible rfl)
            simp only [Act.put, List.setIfInBounds_toArray, List.set_cons_zero, List.set_cons_succ]
            refine z_reads ?_ (by rfl) (fun w' hR => ?_) ?_
            rotate_left
            · (go_simp; try with_reducible rfl)
            simp only [Act.put, List.setIfInBounds_toArray, List.set_cons_zero, List.set_cons_succ]
            refine z_does (by rfl) (fun K hK => ?_)
            go_simp
            refine HIH.out.mono ?_
            rintro e w4 ⟨g4, rfl, hn4, hf4⟩
            refine hK _ _ hf4 ?_
            have hf34 : Fr No w3 w4 := (Fr.refl _ _).drew.trans hf4 (fun _ _ h => h)
            have hcp4 := hcp3.no hf34
            have r1 : w4.cell? ⟨gA, j * 2 + 1, none⟩ = some (.pointer q') := (hf3'.trans hf34 (fun _ _ h => h)).cell e1 id
            have r2 : w4.frozen? ⟨gA, j * 2 + 1, none⟩ = false := hcp4.own.unfrozen _
            try simp only [Act.put, List.setIfInBounds_toArray, List.set_cons_zero, List.set_cons_succ]
            refine z_pure ?_ (by rfl) (fun w' => ?_) ?_
            rotate_left
            · (go_simp; try with_reducible rfl)
            simp only [Act.put, List.setIfInBounds_toArray, List.set_cons_zero, List.set_cons_succ]
            refine z_reads ?_ (by rfl) (fun w' hR => ?_) ?_
            rotate_left
            · (go_simp; try with_reducible rfl)
            simp only [Act.put, List.setIfInBounds_toArray, List.set_cons_zero, List.set_cons_succ]
            refine z_last (by rfl) (fun K hK => ?_)
            go_simp
            refine hK _ _ ?_
            go_wp2_with fail
            go_ret
            have hfs : Fr (fun i => i = gA) w4 (w4.setCell ⟨gA, j * 2 + 1, none⟩ (.pointer (some ⟨g4, 0, none⟩))) := by
              refine Fr.setCell (Fr.refl _ _) ?_ _
              intro _; rfl
            have hf14 := hfw3.trans hf34 (fun _ _ h => h)
            have hsz3 := hf3'.size
            refine ⟨g, rfl, ?_, hf14.trans hfs (fun i hi h => by omega)⟩
            rw [Hss.out, Hnd.out, wordGo_hit f k es nx p r ends s j t m Hne.out (Hfind.out hc0) Hx.out, if_pos (Hcm.out.trans Hct.out), Hcm.out]
            refine NodeAt.mono (CopyAt.setEdge hcp4 (fun i hi => hi.2) hgA Hx.out Hq.out t htl _ (some ⟨g4, 0, none⟩) _ ?_ hfs (hn4.over hfs ?_ (Nat.le_refl _) ?_)) (Nat.le_refl _) (fun i _ hi => hi.elim (fun h => .inl h.1) .inr)
            · rw [edgsV_set_to ps j t _ q' Hq.out]
              exact hcp4.own.put_ _ _
            · intro i hi h
              rcases hi with hi | hi
              · omega
              · have : w3.heap.size ≤ i := hi
                omega
            · intro i hi
              rcases hi with hi | hi
              · exact .inl hi
              · have : w3.heap.size ≤ i := hi
                have := hfw3.size
                exact .inr (by omega)
          · have hct' : ((cm : Int) == (t.length : Int)) = false := by rw [beq_eq_false_iff_ne]; omega
            have hsl := run_str_from (P := Tryz.prog) 9 Tryz.underlying9 s cm (by omega)
            have hst := run_str_from (P := Tryz.prog) 9 Tryz.underlying9 t cm (by omega)
            have hsk := run_str_to (P := Tryz.prog) 9 Tryz.underlying9 t cm (by omega)
            have d0' : w3.drew.cell? ⟨ge, 0, none⟩ = some (.string ⟨t.toArray⟩) := d0
            have d1' : w3.drew.cell? ⟨ge, 1, none⟩ = some (.pointer q') := d1
            go_wp2_with fail
            refine wp_region_steps (Fr No) [(0, false), (1, false), (2, false), (3, false), (4, false), (5, false), (6, false), (7, true), (8, false), (9, true), (10, false)] (by rfl) (PlanRel.refl _) (PlanRel.trans _) (by intro c a d v w h; cases d <;> exact h) (by kernel_rfl) (fun l hl => ?_) (by kernel_rfl)
            simp only [stepsOf, List.getElem?_toArray, List.getElem?_cons_succ, List.getElem?_cons_zero, Option.some.injEq] at hl
            subst hl
            refine plan_reads ?_ (by rfl) (fun w' hR => ?_) ?_
            rotate_left
            · (go_simp; try with_reducible rfl)
            simp only [Act.put, List.setIfInBounds_toArray, List.set_cons_zero, List.set_cons_succ]
            refine plan_reads ?_ (by rfl) (fun w' hR => ?_) ?_
            rotate_left
            · have hk := hR.cell d0' id
              (go_simp; try with_reducible rfl)
            simp only [Act.put, List.setIfInBounds_toArray, List.set_cons_zero, List.set_cons_succ]
            refine plan_reads ?_ (by rfl) (fun w' hR => ?_) ?_
            rotate_left
            · (go_simp; try with_reducible rfl)
            simp only [Act.put, List.setIfInBounds_toArray, List.set_cons_zero, List.set_cons_succ]
            refine plan_reads ?_ (by rfl) (fun w' hR => ?_) ?_
            rotate_left
            · (go_simp; try with_reducible rfl)
            simp only [Act.put, List.setIfInBounds_toArray, List.set_cons_zero, List.set_cons_succ]
            refine plan_reads ?_ (by rfl) (fun w' hR => ?_) ?_
            rotate_left
            · (go_simp; try with_reducible rfl)
            simp only [Act.put, List.setIfInBounds_toArray, List.set_cons_zero, List.set_cons_succ]
            refine plan_reads ?_ (by rfl) (fun w' hR => ?_) ?_
            rotate_left
            · have hk := hR.cell d1' id
              (go_simp; try with_reducible rfl)
            simp only [Act.put, List.setIfInBounds_toArray, List.set_cons_zero, List.set_cons_succ]
            refine plan_reads ?_ (by rfl) (fun w' hR => ?_) ?_
            rotate_left
            · (go_simp; try with_reducible rfl)
            simp only [Act.put, List.setIfInBounds_toArray, List.set_cons_zero, List.set_cons_succ]
            refine plan_does (by rfl) (fun K hK => ?_)
            go_simp
            refine hK _ _ ?hq ?_
            case hq => exact (Fr.refl _ _).alloc _
            try simp only [Act.put, List.setIfInBounds_toArray, List.set_cons_zero, List.set_cons_succ]
            refine plan_reads ?_ (by rfl) (fun w' hR => ?_) ?_
            rotate_left
            · (go_simp; try with_reducible rfl)
            simp only [Act.put, List.setIfInBounds_toArray, List.set_cons_zero, List.set_cons_succ]
            refine plan_does (by rfl) (fun K hK => ?_)
            go_simp
            refine hK _ _ ?hq ?_
            case hq => exact (Fr.refl _ _).alloc _
            try simp only [Act.put, List.setIfInBounds_toArray, List.set_cons_zero, List.set_cons_succ]
            refine plan_reads ?_ (by rfl) (fun w' hR => ?_) ?_
            rotate_left
            · (go_simp; try with_reducible rfl)
            simp only [Act.put, List.setIfInBounds_toArray, List.set_cons_zero, List.set_cons_succ]
            refine plan_end ?_
            obtain ⟨hmN, hmF⟩ := mid_at hN1 w3 (t.drop cm) m q' (by rw [List.length_drop]; omega) hmid3
            obtain ⟨W5, hW5⟩ : ∃ W5, ((w3.alloc (.cells #[.string ⟨(t.drop cm).toArray⟩, .pointer q'] 256)).alloc (.cells #[.slice (some ⟨w3.heap.size, 0, none⟩) 1 1, .pointer none, .pointer none, .pointer none, .slice none 0 0] 226)).drew = W5 := ⟨_, rfl⟩
            rw [hW5] at hmN hmF ⊢
            clear hW5 d0' d1'
            have d0' : W5.drew.cell? ⟨ge, 0, none⟩ = some (.string ⟨t.toArray⟩) := hmF.cell d0 id
            have g0' : W5.drew.cell? ⟨g, 0, none⟩ = some (.slice (some ⟨gA, 0, none⟩) es.length c) := hmF.cell g0 id
            have HIH := Lib.hid (IH.out _ (s.drop cm) _ _ W5.drew (by rw [List.length_drop]; omega) (by rw [List.length_drop]; omega) (hfw03.trans hmF (fun _ _ h => h)).drew (hmN.no (Fr.refl _ _).drew))
            go_wp2_with fail
            refine wp_region_z (Fr No) (.read 0 (.read 1 (.read 2 (.read 3 (.read 4 (.read 5 (.read 6 (.read 7 (.read 8 (.read 9 (.read 10 (.read 11 (.read 12 (.read 13 (.eff 14 (.read 15 (.read 16 (.last 17)))))))))))))))))) (by rfl) (PlanRel.refl _) (PlanRel.trans _) (by intro c a d v w h; cases d <;> exact h) (by kernel_rfl) (fun s hs => ?_) (by kernel_rfl)
            simp only [zOf, List.getElem?_toArray, List.getElem?_cons_succ, List.getElem?_cons_zero, Option.some.injEq] at hs
            subst hs
            refine z_reads ?_ (by rfl) (fun w' hR => ?_) ?_
            rotate_left
            · (go_simp; try with_reducible rfl)
            simp only [Act.put, List.setIfInBounds_toArray, List.set_cons_zero, List.set_cons_succ]
            refine z_reads ?_ (by rfl) (fun w' hR => ?_) ?_
            rotate_left
            · (go_simp; try with_reducible rfl)
            simp only [Act.put, List.setIfInBounds_toArray, List.set_cons_zero, List.set_cons_succ]
            refine z_reads ?_ (by rfl) (fun w' hR => ?_) ?_
            rotate_left
            · (go_simp; try with_reducible rfl)
            simp only [Act.put, List.setIfInBounds_toArray, List.set_cons_zero, List.set_cons_succ]
            refine z_reads ?_ (by rfl) (fun w' hR => ?_) ?_
            rotate_left
            · have hk := hR.cell g0' id
              (go_simp; try with_reducible rfl)
            simp only [Act.put, List.setIfInBounds_toArray, List.set_cons_zero, List.set_cons_succ]
            refine z_reads ?_ (by rfl) (fun w' hR => ?_) ?_
            rotate_left
            · (go_simp; try with_reducible rfl)
            simp only [Act.put, List.setIfInBounds_toArray, List.set_cons_zero, List.set_cons_succ]
            refine z_reads ?_ (by rfl) (fun w' hR => ?_) ?_
            rotate_left
            · (go_simp; try with_reducible rfl)
            simp only [Act.put, List.setIfInBounds_toArray, List.set_cons_zero, List.set_cons_succ]
            refine z_reads ?_ (by rfl) (fun w' hR => ?_) ?_
            rotate_left
            · have hk := hR.cell d0' id
              (go_simp; try with_reducible rfl)
            simp only [Act.put, List.setIfInBounds_toArray, List.set_cons_zero, List.set_cons_succ]
            refine z_reads ?_ (by rfl) (fun w' hR => ?_) ?_
            rotate_left
            · (go_simp; try with_reducible rfl)
            simp only [Act.put, List.setIfInBounds_toArray, List.set_cons_zero, List.set_cons_succ]
            refine z_reads ?_ (by rfl) (fun w' hR => ?_) ?_
            rotate_left
            · (go_simp; try with_reducible rfl)
            simp only [Act.put, List.setIfInBounds_toArray, List.set_cons_zero, List.set_cons_succ]
            refine z_reads ?_ (by rfl) (fun w' hR => ?_) ?_
            rotate_left
            · (go_simp; try with_reducible rfl)
            simp only [Act.put, List.setIfInBounds_toArray, List.set_cons_zero, List.set_cons_succ]
            refine z_reads ?_ (by rfl) (fun w' hR => ?_) ?_
            rotate_left
            · (go_simp; try with_reducible rfl)
            simp only [Act.put, List.setIfInBounds_toArray, List.set_cons_zero, List.set_cons_succ]
            refine z_reads ?_ (by rfl) (fun w' hR => ?_) ?_
            rotate_left
            · (go_simp; try with_reducible rfl)
            simp only [Act.put, List.setIfInBounds_toArray, List.set_cons_zero, List.set_cons_succ]
            refine z_reads ?_ (by rfl) (fun w' hR => ?_) ?_
            rotate_left
            · (go_simp; try with_reducible rfl)
            simp only [Act.put, List.setIfInBounds_toArray, List.set_cons_zero, List.set_cons_succ]
            refine z_reads ?_ (by rfl) (fun w' hR => ?_) ?_
            rotate_left
            · (go_simp; try with_reducible rfl)
            simp only [Act.put, List.setIfInBounds_toArray, List.set_cons_zero, List.set_cons_succ]
            refine z_does (by rfl) (fun K hK => ?_)
            go_simp
            refine HIH.out.mono ?_
            rintro e w6 ⟨g6, rfl, hn6, hf6⟩
            refine hK _ _ hf6 ?_
            have hf36 : Fr No w3 w6 := hmF.drew.trans hf6 (fun _ _ h => h)
            have hcp6 := hcp3.no hf36
            have hown6 := hcp6.own
            have r0 : w6.cell? ⟨gA, j * 2, none⟩ = some (.string ⟨t.toArray⟩) := (hf3'.trans hf36 (fun _ _ h => h)).cell e0 id
            have r1 : w6.frozen? ⟨gA, j * 2, none⟩ = false := hown6.unfrozen _
            have hown7 := hown6.put_ (j * 2) (.string ⟨(t.take cm).toArray⟩)
            have r2 : (w6.setCell ⟨gA, j * 2, none⟩ (.string ⟨(t.take cm).toArray⟩)).cell? ⟨gA, j * 2 + 1, none⟩ = some (.pointer q') := hown7.at_ (by rw [List.getElem?_set_ne (by omega)]; exact flat_get edgV 2 (fun _ => rfl) ps j (t, q') Hq.out 1 (by omega))
            have r3 : (w6.setCell ⟨gA, j * 2, none⟩ (.string ⟨(t.take cm).toArray⟩)).frozen? ⟨gA, j * 2 + 1, none⟩ = false := hown7.unfrozen _
            try simp only [Act.put, List.setIfInBounds_toArray, List.set_cons_zero, List.set_cons_succ]
            refine z_reads ?_ (by rfl) (fun w' hR => ?_) ?_
            rotate_left
            · (go_simp; try with_reducible rfl)
            simp only [Act.put, List.setIfInBounds_toArray, List.set_cons_zero, List.set_cons_succ]
            refine z_reads ?_ (by rfl) (fun w' hR => ?_) ?_
            rotate_left
            · (go_simp; try with_reducible rfl)
            simp only [Act.put, List.setIfInBounds_toArray, List.set_cons_zero, List.set_cons_succ]
            refine z_last (by rfl) (fun K hK => ?_)
            go_simp
            refine hK _ _ ?_
            go_wp2_with fail
            go_ret
            have hfs : Fr (fun i => i = gA) w6 ((w6.setCell ⟨gA, j * 2, none⟩ (.string ⟨(t.take cm).toArray⟩)).setCell ⟨gA, j * 2 + 1, none⟩ (.pointer (some ⟨g6, 0, none⟩))) := by
              refine Fr.setCell (Fr.setCell (Fr.refl _ _) ?_ _) ?_ _
              · intro _; rfl
              · intro _; rfl
            have hf16 := hfw3.trans hf36 (fun _ _ h => h)
            have hsz3 := hf3'.size
            have hszW := hmF.size
            refine ⟨g, rfl, ?_, hf16.trans hfs (fun i hi h => by omega)⟩
            rw [Hss.out, Hnd.out, wordGo_hit f k es nx p r ends s j t m Hne.out (Hfind.out hc0) Hx.out, if_neg (fun h => hct (Hcm.out.symm.trans h)), Hcm.out]
            refine NodeAt.mono (CopyAt.setEdge hcp6 (fun i hi => hi.2) hgA Hx.out Hq.out (t.take cm) (by rw [List.length_take]; omega) _ (some ⟨g6, 0, none⟩) _ ?_ hfs (hn6.over hfs ?_ (Nat.le_refl _) ?_)) (Nat.le_refl _) (fun i _ hi => hi.elim (fun h => .inl h.1) .inr)
            · rw [edgsV_set ps j _ _ (List.getElem?_eq_some_iff.1 Hq.out).1]
              exact hown7.put_ _ _
            · intro i hi h
              rcases hi with (hi | hi) | hi
              · omega
              · omega
              · have : W5.heap.size ≤ i := hi
                omega
            · intro i hi
              rcases hi with (hi | hi) | hi
              · exact .inl hi
              · have := hfw3.size
                exact .inr (by omega)
              · have : W5.heap.size ≤ i := hi
                have := hfw3.size
                exact .inr (by omega)
      · have hlt' : ¬ (j : Int) < (es.length : Int) := by omega
        have hall : ∀ x ∈ es, Cr.common x.1 s = 0 := by
          have := HI.out
          rwa [List.take_of_length_le (by omega)] at this
        have Hfn := Lib.hid (find_none es s hall)
        clear hall HI
        have hk1 : 0 < k := by
          cases s with
          | nil => exact absurd rfl Hne.out
          | cons a b => simp only [List.length_cons] at hk; omega
        have g0 : wr.cell? ⟨g, 0, none⟩ = some (.slice A es.length c) := hcpr.hb.cell 0
        have g0' : wr.drew.cell? ⟨g, 0, none⟩ = some (.slice A es.length c) := g0
        have HIH := Lib.hid (IH.out (fun i => P i ∧ i < w.heap.size) [] none none wr.drew (by simpa using hk1) (by simp) hfr01.drew .nil)
        have hrne := hcpr.rowNe
        have hrl : ∀ i, (Value.slice A es.length c).ownBlock = some i → w.heap.size ≤ i ∧ i < wr.heap.size := fun i hi => hcpr.own.lt i hi
        have hszr := hfr.size
        go_wp2_with fail
        refine wp_region_z (Fr (fun i => (Value.slice A es.length c).ownBlock = some i)) (.read 0 (.read 1 (.read 2 (.read 3 (.read 4 (.read 5 (.read 6 (.read 7 (.eff 8 (.read 9 (.eff 10 (.eff 11 (.pure 12 (.read 13 (.last 14))))))))))))))) (by rfl) (PlanRel.refl _) (PlanRel.trans _) (by intro c a d v w h; cases d <;> exact h) (by kernel_rfl) (fun s hs => ?_) (by kernel_rfl)
        simp only [zOf, List.getElem?_toArray, List.getElem?_cons_succ, List.getElem?_cons_zero, Option.some.injEq] at hs
        subst hs
        refine z_reads ?_ (by rfl) (fun w' hR => ?_) ?_
        rotate_left
        · (go_simp; try with_reducible rfl)
        simp only [Act.put, List.setIfInBounds_toArray, List.set_cons_zero, List.set_cons_succ]
        refine z_reads ?_ (by rfl) (fun w' hR => ?_) ?_
        rotate_left
        · (go_simp; try with_reducible rfl)
        simp only [Act.put, List.setIfInBounds_toArray, List.set_cons_zero, List.set_cons_succ]
        refine z_reads ?_ (by rfl) (fun w' hR => ?_) ?_
        rotate_left
        · (go_simp; try with_reducible rfl)
        simp only [Act.put, List.setIfInBounds_toArray, List.set_cons_zero, List.set_cons_succ]
        refine z_reads ?_ (by rfl) (fun w' hR => ?_) ?_
        rotate_left
        · (go_simp; try with_reducible rfl)
        simp only [Act.put, List.setIfInBounds_toArray, List.set_cons_zero, List.set_cons_succ]
        refine z_reads ?_ (by rfl) (fun w' hR => ?_) ?_
        rotate_left
        · have hk := hR.cell g0' (fun h => hrne _ h rfl)
          (go_simp; try with_reducible rfl)
        simp only [Act.put, List.setIfInBounds_toArray, List.set_cons_zero, List.set_cons_succ]
        refine z_reads ?_ (by rfl) (fun w' hR => ?_) ?_
        rotate_left
        · (go_simp; try with_reducible rfl)
        simp only [Act.put, List.setIfInBounds_toArray, List.set_cons_zero, List.set_cons_succ]
        refine z_reads ?_ (by rfl) (fun w' hR => ?_) ?_
        rotate_left
        · (go_simp; try with_reducible rfl)
        simp only [Act.put, List.setIfInBounds_toArray, List.set_cons_zero, List.set_cons_succ]
        refine z_reads ?_ (by rfl) (fun w' hR => ?_) ?_
        rotate_left
        · (go_simp; try with_reducible rfl)
        simp only [Act.put, List.setIfInBounds_toArray, List.set_cons_zero, List.set_cons_succ]
        refine z_does (by rfl) (fun K hK => ?_)
        go_simp
        refine HIH.out.mono ?_
        rintro e w8 ⟨g8, rfl, hn8, hf8⟩
        refine hK _ _ (hf8.mono (fun _ _ h => absurd h id)) ?_
        have hfr8 : Fr No wr w8 := (Fr.refl _ _).drew.trans hf8 (fun _ _ h => h)
        have hcp8 := hcpr.no hfr8
        try simp only [Act.put, List.setIfInBounds_toArray, List.set_cons_zero, List.set_cons_succ]
        refine z_reads ?_ (by rfl) (fun w' hR => ?_) ?_
        rotate_left
        · (go_simp; try with_reducible rfl)
        simp only [Act.put, List.setIfInBounds_toArray, List.set_cons_zero, List.set_cons_succ]
        refine z_does (by rfl) (fun K hK => ?_)
        go_simp
        refine hK _ _ ?hq ?_
        case hq => exact (Fr.refl _ _).alloc _
        try simp only [Act.put, List.setIfInBounds_toArray, List.set_cons_zero, List.set_cons_succ]
        refine z_does (by rfl) (fun K hK => ?_)
        refine op_app (Pr := fun _ => True) _ (.tmp 97) (.tmp 103) _ rfl w.heap.size 256 _ 2 24 Tryz.underlying224 infoEdge rfl (by decide) (.slice A es.length c) es.length (edgsV ps) rfl ?a0 _ 1 1 (edgsV [(s, some ⟨g8, 0, none⟩)]) rfl rfl ?a2 ?a3 ?a4 (by decide) ?a5 ?_
        case a0 => exact hcp8.own.alloc _
        case a2 => exact Rd.mono (Rd.newAt (w := w8) (t := 256) (cs := #[.string ⟨s.toArray⟩, .pointer (some ⟨g8, 0, none⟩)]) rfl rfl) (fun _ _ _ => trivial)
        case a3 => exact edgsV_one _
        case a4 => omega
        case a5 => have := hfr8.size; simp; omega
        intro v9 w9 hown9 hf9 hob
        obtain ⟨A9, c9, rfl, hc9, _⟩ := own_form hown9
        refine hK _ _ hf9 ?_
        have hf89 : Fr (fun i => (Value.slice A es.length c).ownBlock = some i) w8 w9 := ((Fr.refl _ _).alloc _).trans hf9 (fun _ _ h => h)
        have hb9 := hcp8.hb.fr hf89 (fun h => hrne _ h rfl)
        have r0 : w9.cell? ⟨g, 0, none⟩ = some (.slice A es.length c) := hb9.cell 0
        have r1 : w9.frozen? ⟨g, 0, none⟩ = false := hb9.frozen 0
        try simp only [Act.put, List.setIfInBounds_toArray, List.set_cons_zero, List.set_cons_succ]
        refine z_pure ?_ (by rfl) (fun w' => ?_) ?_
        rotate_left
        · (go_simp; try with_reducible rfl)
        simp only [Act.put, List.setIfInBounds_toArray, List.set_cons_zero, List.set_cons_succ]
        refine z_reads ?_ (by rfl) (fun w' hR => ?_) ?_
        rotate_left
        · (go_simp; try with_reducible rfl)
        simp only [Act.put, List.setIfInBounds_toArray, List.set_cons_zero, List.set_cons_succ]
        refine z_last (by rfl) (fun K hK => ?_)
        go_simp
        refine hK _ _ ?_
        go_wp2_with fail
        go_ret
        have hsz8 := hfr8.size
        have hP8 : ∀ i, (P i ∧ i < w.heap.size) → ¬ (Value.slice A es.length c).ownBlock = some i := fun i hi h => by have := (hrl i h).1; omega
        have hfs : Fr (fun i => i = g) w9 (w9.setCell ⟨g, 0, none⟩ (.slice A9 (es.length + 1) c9)) := by
          refine Fr.setCell (Fr.refl _ _) ?_ _
          intro _; rfl
        have hPg : ∀ i, (P i ∧ i < w.heap.size) → ¬ i = g := fun i hi h => by omega
        have hf19 : Fr No w w9 := (hfr1.trans hfr8 (fun _ _ h => h)).trans hf89 (fun i hi h => by have := (hrl i h).1; omega)
        refine ⟨g, rfl, ?_, hf19.trans hfs (fun i hi h => by omega)⟩
        rw [Hss.out, Hnd.out, wordGo_miss f k es nx p r ends s Hne.out Hfn.out]
        have hb10 := hb9.set_ 0 (.slice A9 (es.length + 1) c9)
        have h9g : ∀ i, (Value.slice A9 (es.length + 1) c9).ownBlock = some i → ¬ i = g := by
          rintro i hi rfl
          rcases hob with hob | hob
          · rw [hob] at hi
            exact hrne _ hi rfl
          · rw [hob] at hi
            simp at hi
            omega
        have hown10 := hown9.fr hfs h9g
        rw [← edgsV_append] at hown10
        have hn9 : NodeAt (fun i => P i ∨ w.heap.size ≤ i) (N + 1) (w9.setCell ⟨g, 0, none⟩ (.slice A9 (es.length + 1) c9)) (some ⟨g8, 0, none⟩) (some (.mk [] (some (f none)) none none [])) := by
          have e0 : Cr.wordGo f k (nodeOr none) [] = .mk [] (some (f none)) none none [] := by
            obtain ⟨k', rfl⟩ : ∃ k', k = k' + 1 := ⟨k - 1, by omega⟩
            rfl
          rw [e0] at hn8
          refine (hn8.over hf89 ?_ (Nat.le_refl _) (P' := fun i => (P i ∧ i < w.heap.size) ∨ wr.heap.size ≤ i) (fun i hi => hi)).over hfs ?_ (Nat.le_refl _) ?_
          · intro i hi h
            have := hrl i h
            rcases hi with hi | hi
            · omega
            · have : wr.heap.size ≤ i := hi
              omega
          · intro i hi h
            rcases hi with hi | hi <;> omega
          · intro i hi
            rcases hi with hi | hi
            · exact .inl hi.1
            · have := hfr1.size
              exact .inr (by omega)
        refine NodeAt.mk (P := fun i => P i ∨ w.heap.size ≤ i) (N := N + 1) g A9 D c9 ends.length pn pp pr (es ++ [(s, .mk [] (some (f none)) none none [])]) (ps ++ [(s, some ⟨g8, 0, none⟩)]) nx p r ends (.inr hg) (by rw [List.length_append]; exact hb10) (by rw [List.length_append]; exact hown10.capOf) (Nat.le_refl _)
          (fun h => by have := hown10.nilOf h; omega) ?_ (by rw [List.length_append]; have := hcp8.hN; simp only [List.length_cons, List.length_nil]; omega) (by have := hcp8.hM; omega) ?_ (hown10.rd (fun i hi => .inr hi)) ((hcp8.hD.over hf89 hP8 (fun i hi => hi)).over hfs hPg (fun i hi => .inl hi.1)) ?_
          (((hcp8.hn.over hf89 hP8 (Nat.le_refl _) (fun i hi => hi)).over hfs hPg (by omega) (fun i hi => .inl hi.1))) (((hcp8.hp.over hf89 hP8 (Nat.le_refl _) (fun i hi => hi)).over hfs hPg (by omega) (fun i hi => .inl hi.1))) (((hcp8.hr.over hf89 hP8 (Nat.le_refl _) (fun i hi => hi)).over hfs hPg (by omega) (fun i hi => .inl hi.1)))
        · rw [List.map_append, List.map_append, hcp8.hps]
          rfl
        · intro x hx
          rcases List.mem_append.1 hx with hx | hx
          · exact hcp8.ht x hx
          · obtain rfl := List.mem_singleton.1 hx
            exact hs
        · intro i t1 m1 q1 h1 h2
          have hpl : ps.length = es.length := by simpa using congrArg List.length hcp8.hps
          by_cases hi : i < es.length
          · rw [List.getElem?_append_left hi] at h1
            rw [List.getElem?_append_left (by omega)] at h2
            exact ((hcp8.hes i t1 m1 q1 h1 h2).over hf89 hP8 (Nat.le_refl _) (fun i hi => hi)).over hfs hPg (by omega) (fun i hi => .inl hi.1)
          · rw [List.getElem?_append_right (by omega)] at h1 h2
            rw [hpl] at h2
            cases hd : i - es.length with
            | zero =>
              rw [hd] at h1 h2
              simp only [List.getElem?_cons_zero, Option.some.injEq, Prod.mk.injEq] at h1 h2
              obtain ⟨_, rfl⟩ := h1
              obtain ⟨_, rfl⟩ := h2
              exact hn9
            | succ d => rw [hd] at h1; simp at h1
end Go.Proofs.YthcbjeeajoliiaaGreatDoor
