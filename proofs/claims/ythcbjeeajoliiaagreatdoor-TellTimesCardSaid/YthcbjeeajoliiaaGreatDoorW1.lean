/- Strings as cells; a map that is a set. -/
import Derived.Test.YthcbjeeajoliiaaGreatDoorV5
import Derived.Test.YthcbjeeajoliiaaGreatDoorM2
import Derived.DeepKeys4
import Derived.Maps.OwnOps
set_option linter.unusedVariables false
set_option linter.unusedSimpArgs false
namespace Go.Proofs.YthcbjeeajoliiaaGreatDoor
open Go.RowKit Go.ChangeMaps
open Cr (Str wordsGo words)

def strV (s : Str) : Value := .string ⟨s.toArray⟩
def strsV (l : List Str) : List Value := l.map strV
@[simp] theorem strsV_length (l : List Str) : (strsV l).length = l.length := by simp [strsV]
theorem strsV_append (l m : List Str) : strsV (l ++ m) = strsV l ++ strsV m := by simp [strsV]
theorem strsV_get {l : List Str} {k : Nat} {s : Str} (h : l[k]? = some s) : (strsV l)[k]? = some (.string ⟨s.toArray⟩) := by simp [strsV, strV, h]

theorem infoStr : (Tryz.prog.info? 9).map (fun i => (i.zero, i.size, i.bytes)) = some (some (.string ⟨#[]⟩), 1, 16) := by kernel_rfl

theorem str_size (s : Str) : (⟨s.toArray⟩ : ByteArray).size = s.length := by simp [ByteArray.size]
theorem str_cut (s : Str) (fr k : Nat) : (⟨s.toArray⟩ : ByteArray).extract fr k = ⟨((s.take k).drop fr).toArray⟩ := by
  rw [ByteArray.extract_mk]
  congr 1
  simp [List.extract_eq_take_drop, List.drop_take]

section
variable {P : Program}
theorem run_str_at (t : TypeId) (ht : P.underlying t = some .string) (s : Str) (k : Nat) (c : UInt8) (hc : s[k]? = some c) (w : World) : (Instr.index t (.string ⟨s.toArray⟩) (.int .i64 k)).run P w = .ok (.int .u8 c.toNat) w := by
  obtain ⟨hk, hc'⟩ := List.getElem?_eq_some_iff.1 hc
  rw [run_index_string w t _ _ _ ht, dif_pos ⟨by omega, by rw [str_size]; omega⟩]
  subst hc'
  rfl
theorem run_str_cut (t : TypeId) (ht : P.underlying t = some .string) (s : Str) (fr k : Nat) (hf : fr ≤ k) (hk : k ≤ s.length) (w : World) : (Instr.slice t (.string ⟨s.toArray⟩) (some (.int .i64 fr)) (some (.int .i64 k)) none).run P w = .ok (.string ⟨((s.take k).drop fr).toArray⟩) w := by
  rw [run_slice_string_if w t _ _ _ _ _ ht]
  have h1 : (k : Int) ≤ ((⟨s.toArray⟩ : ByteArray).size : Int) := by rw [str_size]; omega
  simp [hf, hk, str_cut]
  intro h2
  rw [str_size] at h2
  omega
theorem run_str_from (t : TypeId) (ht : P.underlying t = some .string) (s : Str) (fr : Nat) (hf : fr ≤ s.length) (w : World) : (Instr.slice t (.string ⟨s.toArray⟩) (some (.int .i64 fr)) none none).run P w = .ok (.string ⟨(s.drop fr).toArray⟩) w := by
  rw [run_slice_string_from_if w t _ _ _ ht]
  have h1 := str_cut s fr s.length
  rw [List.take_length] at h1
  simp [hf, h1, str_size]
theorem run_str_to (t : TypeId) (ht : P.underlying t = some .string) (s : Str) (k : Nat) (hk : k ≤ s.length) (w : World) : (Instr.slice t (.string ⟨s.toArray⟩) none (some (.int .i64 k)) none).run P w = .ok (.string ⟨(s.take k).toArray⟩) w := by
  rw [run_slice_string_to_if w t _ _ _ ht]
  have h1 := str_cut s 0 k
  simp [hk, h1, str_size]
end

theorem words_at (s : Str) (b c : UInt8) (k fr : Nat) (hf : fr ≤ k) (hc : s[k]? = some c) :
    wordsGo b ((s.take k).drop fr) (s.drop k) = if c = b then ((s.take k).drop fr) :: wordsGo b ((s.take (k + 1)).drop (k + 1)) (s.drop (k + 1)) else wordsGo b ((s.take (k + 1)).drop fr) (s.drop (k + 1)) := by
  obtain ⟨hk, hc'⟩ := List.getElem?_eq_some_iff.1 hc
  have h1 : s.drop k = c :: s.drop (k + 1) := by rw [List.drop_eq_getElem_cons hk, hc']
  have h2 : (s.take (k + 1)).drop (k + 1) = [] := List.drop_of_length_le (by simp; omega)
  have h3 : (s.take (k + 1)).drop fr = (s.take k).drop fr ++ [c] := by
    rw [List.take_add_one, hc, List.drop_append_of_le_length (by simp; omega)]
    rfl
  rw [h1, h2, h3]
  rfl
theorem words_end (s : Str) (b : UInt8) (fr : Nat) : wordsGo b ((s.take s.length).drop fr) (s.drop s.length) = [s.drop fr] := by simp [wordsGo]

theorem wordsGo_length (b : UInt8) : ∀ (s cur : Str), (wordsGo b cur s).length ≤ s.length + 1
  | [], _ => by simp [wordsGo]
  | c :: s, cur => by
    unfold wordsGo
    split
    · have := wordsGo_length b s []; simp only [List.length_cons]; omega
    · have := wordsGo_length b s (cur ++ [c]); simp only [List.length_cons]; omega
theorem wordsGo_pos (b : UInt8) : ∀ (s cur : Str), 0 < (wordsGo b cur s).length
  | [], _ => by simp [wordsGo]
  | c :: s, cur => by
    unfold wordsGo
    split
    · simp
    · exact wordsGo_pos b s _
theorem wordsGo_small (b : UInt8) : ∀ (s cur : Str) (x : Str), x ∈ wordsGo b cur s → x.length ≤ cur.length + s.length
  | [], cur, x, h => by
    simp only [wordsGo, List.mem_singleton] at h
    subst h
    simp
  | c :: s, cur, x, h => by
    unfold wordsGo at h
    split at h
    · simp only [List.mem_cons] at h
      rcases h with rfl | h
      · simp
      · have := wordsGo_small b s [] x h
        simp only [List.length_nil, List.length_cons] at *
        omega
    · have := wordsGo_small b s _ x h
      simp only [List.length_append, List.length_nil, List.length_cons] at *
      omega
theorem words_length (s : Str) (b : UInt8) : (words s b).length ≤ s.length + 1 := wordsGo_length b s []
theorem words_pos (s : Str) (b : UInt8) : 0 < (words s b).length := wordsGo_pos b s []
theorem words_small (s : Str) (b : UInt8) (x : Str) (h : x ∈ words s b) : x.length ≤ s.length := by
  have := wordsGo_small b s [] x h
  simpa using this

/-- Block b is a map whose keys are ks, with true each. -/
def SetAt (w : World) (b : Nat) (ks : List Value) : Prop := ∃ es clock, w.heap[b]? = some (.map es clock) ∧ es.toList.map (·.key) = ks ∧ ∀ x ∈ es.toList, x.val = .bool true
section
variable {P : Program} {w w' : World} {b : Nat} {ks : List Value} {S : Nat → Prop} {k t e : TypeId}
theorem SetAt.made (w : World) : SetAt (w.alloc (.map #[] 0)) w.heap.size [] := ⟨#[], 0, heap_alloc_new w _, rfl, by simp⟩
theorem SetAt.fr (h : SetAt w b ks) (hf : Fr S w w') (hn : ¬ S b) : SetAt w' b ks := by
  obtain ⟨es, c, hb, h1, h2⟩ := h
  exact ⟨es, c, hf.heap hb hn, h1, h2⟩
theorem SetAt.lt (h : SetAt w b ks) : b < w.heap.size := by
  obtain ⟨es, c, hb, h1, h2⟩ := h
  exact (Array.getElem?_eq_some_iff.1 hb).1
theorem SetAt.look (h : SetAt w b ks) (K : Go.Maps.Keyed P k) (ht : P.underlying t = some (.map k e)) (hz : ∀ w, (zeroValue e).run P w = .ok (.bool false) w)
    (hks : ∀ x ∈ ks, ∃ l, keyOf P k x = some l) {key : Value} {kl : Lit} (hkey : keyOf P k key = some kl) :
    ∃ r : Bool, (∀ w', w'.heap[b]? = w.heap[b]? → (Instr.lookup t (.map (some b)) key false).run P w' = .ok (.bool r) w') ∧ (r = true ↔ key ∈ ks) := by
  obtain ⟨es, c, hb, rfl, h2⟩ := h
  have hkk : ∀ x ∈ es.toList, ∃ l, keyOf P k x.key = some l := fun x hx => hks _ (List.mem_map.2 ⟨x, hx, rfl⟩)
  by_cases hin : key ∈ es.toList.map (·.key)
  · refine ⟨true, fun w' hw => ?_, by simp [hin]⟩
    rw [hb] at hw
    rcases K.find w' hkey es.toList hkk with ⟨h1, h3⟩ | ⟨j, e0, h1, h3, h4⟩
    · obtain ⟨x, hx, hxk⟩ := List.mem_map.1 hin
      exact absurd hxk (h3 x hx)
    · have hv := h2 e0 (List.mem_of_getElem? h3)
      simp [Instr.lookup, run_underlying ht, MapKept.run_getObj_map hw, K.check w' _ hkey, h1, hv, Result.andThen]
  · refine ⟨false, fun w' hw => ?_, by simp [hin]⟩
    rw [hb] at hw
    rcases K.find w' hkey es.toList hkk with ⟨h1, h3⟩ | ⟨j, e0, h1, h3, h4⟩
    · simp [Instr.lookup, run_underlying ht, MapKept.run_getObj_map hw, K.check w' _ hkey, h1, hz, Result.andThen]
    · exact absurd (List.mem_map.2 ⟨e0, List.mem_of_getElem? h3, h4⟩) hin
theorem SetAt.put (h : SetAt w b ks) (K : Go.Maps.Keyed P k) (ht : P.underlying t = some (.map k e))
    (hks : ∀ x ∈ ks, ∃ l, keyOf P k x = some l) {key : Value} {kl : Lit} (hkey : keyOf P k key = some kl) (hnot : key ∉ ks) :
    ∃ w', (Instr.mapUpdate t (.map (some b)) key (.bool true)).run P w = .ok () w' ∧ SetAt w' b (ks ++ [key]) ∧ Fr (fun k => k = b) w w' := by
  obtain ⟨es, c, hb, rfl, h2⟩ := h
  have hkk : ∀ x ∈ es.toList, ∃ l, keyOf P k x.key = some l := fun x hx => hks _ (List.mem_map.2 ⟨x, hx, rfl⟩)
  rcases K.find w hkey es.toList hkk with ⟨h1, h3⟩ | ⟨j, e0, h1, h3, h4⟩
  · refine ⟨setBlock w b (.map (es.push ⟨key, .bool true, c⟩) (c + 1)), ?_, ⟨_, _, heap_setBlock_same hb _, by simp, ?_⟩, ⟨rfl, rfl, rfl, by simp [setBlock], fun i _ hi => heap_setBlock_other hb _ (fun e => hi e)⟩⟩
    · simp [Instr.mapUpdate, run_underlying ht, MapKept.run_getObj_map hb, K.check w false hkey, h1, MapKept.run_setObj_map _ hb, Result.andThen, setBlock]
    · intro x hx
      simp only [Array.toList_push, List.mem_append, List.mem_singleton] at hx
      rcases hx with hx | rfl
      · exact h2 x hx
      · rfl
  · exact absurd (List.mem_map.2 ⟨e0, List.mem_of_getElem? h3, h4⟩) hnot
/-- 'm[k] = true' at the operation. -/
theorem wpList_set_put {ops : Array Oper} {rest : List Oper} {o : Oper} {a : Act} {Q : Exit → Act → World → Prop}
    (hg : o.guard = none) (m x v : Operand) (t : TypeId) (hop : o.op = Op.mapUpdate t m x v)
    (k e : TypeId) (K : Go.Maps.Keyed P k) (ht : P.underlying t = some (.map k e)) (b : Nat) (ks : List Value)
    (hm : a.eval m = .map (some b)) (h : SetAt w b ks) (hks : ∀ x ∈ ks, ∃ l, keyOf P k x = some l) (key : Value) (kl : Lit) (hx : a.eval x = key) (hv : a.eval v = .bool true) (hkey : keyOf P k key = some kl) (hnot : key ∉ ks)
    (hK : ∀ w', SetAt w' b (ks ++ [key]) → Fr (fun k => k = b) w w' → wpList P ops Q rest (a.put o.dst undef) w') :
    wpList P ops Q (o :: rest) a w := by
  refine wpList_plain hg fun K' hK' => ?_
  obtain ⟨w', hrun, r1, r2⟩ := h.put K ht hks hkey hnot
  unfold Oper.wp
  simp [execOp, hop, hm, hx, hv, hrun, Result.andThen]
  exact hK' _ _ (hK w' r1 r2)
end
end Go.Proofs.YthcbjeeajoliiaaGreatDoor
