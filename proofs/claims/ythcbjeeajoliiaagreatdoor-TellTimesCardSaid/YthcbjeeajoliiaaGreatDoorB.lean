/- Words on worlds that all walks use: which blocks a call may turn, a block that is known whole, cells that a slice leads to. -/
import Derived.WalkKit
import Derived.Lib.Hide
import Derived.Maps.AppendAt
import Derived.Deep.Draws
import Derived.Laws.OwnMore
import Derived.Laws.Rows
import Derived.Lib.AppendStr
import Derived.Laws.BitsAllLaws
import Derived.Laws.BitsLemmas
import Derived.Laws.BytesString
namespace Go.Proofs.YthcbjeeajoliiaaGreatDoor
open Go.RowKit

/-- Behind a call: blocks that were there and are not of S are as they were. -/
structure Fr (S : Nat → Prop) (w w' : World) : Prop where
  os : w'.os = w.os
  tape : w'.tape = w.tape
  output : w'.output = w.output
  size : w.heap.size ≤ w'.heap.size
  block : ∀ k, k < w.heap.size → ¬ S k → w'.heap[k]? = w.heap[k]?

def No : Nat → Prop := fun _ => False

section
variable {S S' T : Nat → Prop} {a b c w w' w1 w2 : World}
theorem Fr.refl (S : Nat → Prop) (w : World) : Fr S w w := ⟨rfl, rfl, rfl, Nat.le_refl _, fun _ _ _ => rfl⟩
theorem Fr.mono (h : Fr S a b) (hS : ∀ k, k < a.heap.size → S k → S' k) : Fr S' a b :=
  ⟨h.os, h.tape, h.output, h.size, fun k hk hn => h.block k hk fun hs => hn (hS k hk hs)⟩
theorem Fr.trans (h : Fr S a b) (k : Fr T b c) (hT : ∀ i, i < a.heap.size → T i → S i) : Fr S a c :=
  ⟨k.os.trans h.os, k.tape.trans h.tape, k.output.trans h.output, Nat.le_trans h.size k.size,
    fun i hi hn => (k.block i (Nat.lt_of_lt_of_le hi h.size) fun ht => hn (hT i hi ht)).trans (h.block i hi hn)⟩
theorem Fr.after (k : Fr T b c) (h : Fr S a b) (hT : ∀ i, i < a.heap.size → T i → S i) : Fr S a c := h.trans k hT
theorem Fr.drew (h : Fr S a w) : Fr S a w.drew := ⟨h.os, h.tape, h.output, h.size, h.block⟩
theorem Fr.drewN (h : Fr S a w) (n : Nat) : Fr S a (w.drewN n) := ⟨h.os, h.tape, h.output, h.size, h.block⟩
theorem Fr.alloc (h : Fr S a w) (o : Obj) : Fr S a (w.alloc o) :=
  ⟨h.os, h.tape, h.output, Nat.le_trans h.size (by simp), fun k hk hn => (Below.heap_alloc w o k (Nat.lt_of_lt_of_le hk h.size)).trans (h.block k hk hn)⟩
theorem Fr.setCell (h : Fr S a w) {p : Addr} (hp : p.block < a.heap.size → S p.block) (u : Value) : Fr S a (w.setCell p u) :=
  ⟨h.os, h.tape, h.output, by simpa [World.setCell] using h.size, fun k hk hn => (Below.heap_setCell w p u k (by
    rintro rfl
    exact hn (hp hk))).trans (h.block k hk hn)⟩
theorem Fr.of_below (h : Below w.heap.size w w') : Fr S w w' := ⟨h.os, h.tape, h.output, h.size, fun k hk _ => h.block k hk⟩
theorem Fr.below (h : Fr S a b) {B : Nat} (hS : ∀ k, k < B → ¬ S k) (hB : B ≤ a.heap.size) : Below B a b := ⟨h.os, h.tape, h.output, h.size, fun k hk => h.block k (by omega) (hS k hk)⟩
theorem Fr.of_grown {row : Option Nat} (h : w.grownBy w' row) : Fr (fun k => some k = row) w w' := ⟨h.os, h.tape, h.output, h.size, fun k hk hn => h.block k hk hn⟩
theorem Fr.heap (h : Fr S a b) {k : Nat} {o : Obj} (hk : a.heap[k]? = some o) (hn : ¬ S k) : b.heap[k]? = some o :=
  (h.block k (Array.getElem?_eq_some_iff.1 hk).1 hn).trans hk
theorem Fr.cell (h : Fr S a b) {p : Addr} {v : Value} (hc : a.cell? p = some v) (hn : ¬ S p.block) : b.cell? p = some v :=
  (World.cell?_of_block (h.block p.block (World.block_lt_of_cell? a p hc) hn)).trans hc
theorem Fr.frozen (h : Fr S a b) {p : Addr} (hk : p.block < a.heap.size) (hn : ¬ S p.block) : b.frozen? p = a.frozen? p := World.frozen?_of_block (h.block p.block hk hn)
end

/-- Block g is just the cells cs of element type t, none of them frozen. -/
def Blk (w : World) (g : Nat) (t : TypeId) (cs : Array Value) : Prop := w.heap[g]? = some (.cells cs t (0, 0))
section
variable {w w' : World} {g : Nat} {t : TypeId} {cs : Array Value}
theorem Blk.lt (h : Blk w g t cs) : g < w.heap.size := (Array.getElem?_eq_some_iff.1 h).1
theorem Blk.cell (h : Blk w g t cs) (i : Nat) : w.cell? ⟨g, i, none⟩ = cs[i]? := cell_of_row w g i cs t (0, 0) h
theorem Blk.frozen (h : Blk w g t cs) (i : Nat) : w.frozen? ⟨g, i, none⟩ = false := by
  unfold Blk at h
  simp [World.frozen?, h]
theorem Blk.new (w : World) (t : TypeId) (cs : Array Value) : Blk (w.alloc (.cells cs t)) w.heap.size t cs := heap_alloc_new w _
theorem Blk.drew (h : Blk w g t cs) : Blk w.drew g t cs := h
theorem Blk.drewN (h : Blk w g t cs) (n : Nat) : Blk (w.drewN n) g t cs := h
theorem Blk.alloc (h : Blk w g t cs) (o : Obj) : Blk (w.alloc o) g t cs := (Below.heap_alloc w o g h.lt).trans h
theorem Blk.set_ (h : Blk w g t cs) (i : Nat) (u : Value) : Blk (w.setCell ⟨g, i, none⟩ u) g t (cs.setIfInBounds i u) := by
  unfold Blk at h ⊢
  simp [World.setCell, Array.getElem?_modify, h]
theorem Blk.far (h : Blk w g t cs) {p : Addr} (hp : g ≠ p.block) (u : Value) : Blk (w.setCell p u) g t cs := (Below.heap_setCell w p u g hp).trans h
theorem Blk.fr {S : Nat → Prop} (h : Blk w g t cs) (hf : Fr S w w') (hn : ¬ S g) : Blk w' g t cs := hf.heap h hn
theorem Blk.ne_ {g' : Nat} {t' : TypeId} {cs' : Array Value} (h : Blk w g t cs) (h' : Blk w g' t' cs') (hne : t ≠ t') : g ≠ g' := by
  rintro rfl
  unfold Blk at h h'
  rw [h] at h'
  injection h' with h'
  injection h' with _ ht
  exact hne ht
end

/-- From A on lie the k cells xs; they lie in blocks of P. -/
def Rd (P : Nat → Prop) (w : World) (A : Option Addr) (xs : List Value) : Prop :=
  xs ≠ [] → ∃ ad, A = some ad ∧ P ad.block ∧ ad.spot = none ∧ ∀ j u, xs[j]? = some u → w.cell? ⟨ad.block, ad.off + j, none⟩ = some u
section
variable {P P' : Nat → Prop} {w w' : World} {A : Option Addr} {xs : List Value}
theorem Rd.nil (P : Nat → Prop) (w : World) (A : Option Addr) : Rd P w A [] := fun h => absurd rfl h
theorem Rd.fr {S : Nat → Prop} (h : Rd P w A xs) (hf : Fr S w w') (hn : ∀ k, P k → ¬ S k) : Rd P w' A xs := fun hx => by
  obtain ⟨ad, e, hp, hs, hc⟩ := h hx
  exact ⟨ad, e, hp, hs, fun j u hu => hf.cell (hc j u hu) (hn _ hp)⟩
theorem Rd.mono (h : Rd P w A xs) (hP : ∀ k, k < w.heap.size → P k → P' k) : Rd P' w A xs := fun hx => by
  obtain ⟨ad, e, hp, hs, hc⟩ := h hx
  refine ⟨ad, e, hP _ ?_ hp, hs, hc⟩
  obtain ⟨u, hu⟩ : ∃ u, xs[0]? = some u := by
    cases xs with
    | nil => exact absurd rfl hx
    | cons x l => exact ⟨x, rfl⟩
  have hlt := World.block_lt_of_cell? w ⟨ad.block, ad.off + 0, none⟩ (hc 0 u hu)
  exact hlt
theorem Rd.drop_ (h : Rd P w A xs) {n c k : Nat} (hk : k < n) (hc : n ≤ c) (m : Nat) : Rd P w (if c = k then A else A.map (·.add m)) (xs.drop m) := fun hx => by
  obtain ⟨ad, rfl, hp, hs, hcell⟩ := h (by rintro rfl; simp at hx)
  have hne : ¬ c = k := by omega
  refine ⟨ad.add m, by simp [hne], by unfold Addr.add; split <;> exact hp, by unfold Addr.add; split <;> first | exact hs | rfl, fun j u hu => ?_⟩
  rw [List.getElem?_drop] at hu
  have := hcell _ u hu
  unfold Addr.add
  split
  · rename_i h0; subst h0; simpa using this
  · simpa [Nat.add_assoc] using this
theorem Rd.take_ (h : Rd P w A xs) (m : Nat) : Rd P w A (xs.take m) := fun hx => by
  obtain ⟨ad, e, hp, hs, hc⟩ := h (by rintro rfl; simp at hx)
  refine ⟨ad, e, hp, hs, fun j u hu => hc j u ?_⟩
  rw [List.getElem?_take] at hu
  split at hu
  · exact hu
  · cases hu
theorem Rd.of_own {base : Nat} {e : TypeId} {size n c : Nat} (h : w.ownsRow base e size (.slice A n c) n xs) : Rd (fun k => (Value.slice A n c).ownBlock = some k) w A xs := fun hx => by
  rcases h.2 with ⟨hv, rfl⟩ | ⟨g, cap, cur, hv, hb, hg, hnc, hcm, hcs, ht⟩
  · have := h.1
    simp at this
    exact absurd this hx
  · injection hv with hA hn hcc
    subst hA
    refine ⟨⟨g, 0, none⟩, rfl, rfl, rfl, fun j u hu => ?_⟩
    have := h.cells (g := g) rfl j u hu
    rwa [show (⟨g, 0, none⟩ : Addr).add j = ⟨g, 0 + j, none⟩ by unfold Addr.add; split <;> simp_all] at this
end

theorem Rd.new (w : World) (t : TypeId) (cs : Array Value) (xs : List Value) (h : cs.toList = xs) : Rd (fun k => k = w.heap.size) (w.alloc (.cells cs t)) (some ⟨w.heap.size, 0, none⟩) xs := fun _ =>
  ⟨_, rfl, rfl, rfl, fun j u hu => by
    have := (Blk.new w t cs).cell (0 + j)
    rw [this, Nat.zero_add, ← Array.getElem?_toList, h, hu]⟩
theorem Rd.newAt {w : World} {t : TypeId} {cs : Array Value} {xs : List Value} {g : Nat} (hg : w.heap.size = g) (h : cs.toList = xs) : Rd (fun k => k = g) (w.alloc (.cells cs t)) (some ⟨g, 0, none⟩) xs := by
  subst hg
  exact Rd.new w t cs xs h
theorem _root_.Go.World.ownsRow.weaken {w : World} {base base' : Nat} {e : TypeId} {size n : Nat} {v : Value} {xs : List Value} (h : w.ownsRow base e size v n xs) (hb : base' ≤ base) : w.ownsRow base' e size v n xs := by
  refine ⟨h.1, ?_⟩
  rcases h.2 with hn | ⟨g, cap, cur, hv, hg, rest⟩
  · exact .inl hn
  · exact .inr ⟨g, cap, cur, hv, Nat.le_trans hb hg, rest⟩
theorem _root_.Go.World.ownsRow.fr {w w' : World} {S : Nat → Prop} {base : Nat} {e : TypeId} {size n : Nat} {v : Value} {xs : List Value} (h : w.ownsRow base e size v n xs) (hf : Fr S w w')
    (hn : ∀ k, v.ownBlock = some k → ¬ S k) : w'.ownsRow base e size v n xs := by
  refine ⟨h.1, ?_⟩
  rcases h.2 with hv | ⟨g, cap, cur, rfl, hb, hg, rest⟩
  · exact .inl hv
  · exact .inr ⟨g, cap, cur, rfl, hb, hf.heap hg (hn g rfl), rest⟩

theorem flat_length {α β : Type} (f : α → List β) (size : Nat) (hf : ∀ a, (f a).length = size) (l : List α) : (l.flatMap f).length = l.length * size := by
  induction l with
  | nil => simp
  | cons a l ih => simp only [List.flatMap_cons, List.length_append, List.length_cons, ih, hf, Nat.add_mul, Nat.one_mul]; omega
theorem flat_get {α β : Type} (f : α → List β) (size : Nat) (hf : ∀ a, (f a).length = size) : ∀ (l : List α) (k : Nat) (a : α), l[k]? = some a → ∀ j, j < size → (l.flatMap f)[k * size + j]? = (f a)[j]?
  | [], k, a, h, _, _ => by simp at h
  | b :: l, 0, a, h, j, hj => by
    simp only [List.getElem?_cons_zero, Option.some.injEq] at h
    subst h
    simp only [List.flatMap_cons, Nat.zero_mul, Nat.zero_add]
    rw [List.getElem?_append_left (by rw [hf]; exact hj)]
  | b :: l, k + 1, a, h, j, hj => by
    simp only [List.getElem?_cons_succ] at h
    simp only [List.flatMap_cons]
    rw [List.getElem?_append_right (by rw [hf, Nat.add_mul]; omega), hf, ← flat_get f size hf l k a h j hj]
    congr 1
    rw [Nat.add_mul]
    omega
theorem Rd.form {P : Nat → Prop} {w : World} {A : Option Addr} {xs : List Value} (h : Rd P w A xs) (hx : xs ≠ []) : ∃ g off, A = some ⟨g, off, none⟩ ∧ P g ∧ ∀ j u, xs[j]? = some u → w.cell? ⟨g, off + j, none⟩ = some u := by
  obtain ⟨⟨g, off, sp⟩, e, hp, hs, hc⟩ := h hx
  simp only at hs
  subst hs
  exact ⟨g, off, e, hp, hc⟩

/-- Bytes as cells. -/
def byV (l : List UInt8) : List Value := l.map fun x => .int .u8 x.toNat
@[simp] theorem byV_length (l : List UInt8) : (byV l).length = l.length := by simp [byV]
theorem byV_append (l m : List UInt8) : byV (l ++ m) = byV l ++ byV m := by simp [byV]
theorem byV_drop (l : List UInt8) (k : Nat) : (byV l).drop k = byV (l.drop k) := by simp [byV, List.map_drop]
theorem byV_take (l : List UInt8) (k : Nat) : (byV l).take k = byV (l.take k) := by simp [byV, List.map_take]


/-! ### laws at operations -/
section
variable {P : Program} (w : World)

theorem add_eq_off (ad : Addr) (hs : ad.spot = none) (j : Nat) : ad.add j = ⟨ad.block, ad.off + j, none⟩ := by
  cases ad; simp at hs; subst hs; unfold Addr.add; split <;> simp_all

theorem Rd.adds {Pr : Nat → Prop} {ad : Addr} {xs : List Value} (h : Rd Pr w (some ad) xs) : ∀ j u, xs[j]? = some u → w.cell? (ad.add j) = some u := fun j u hu => by
  obtain ⟨ad', e, _, hs, hc⟩ := h (by rintro rfl; simp at hu)
  injection e with e
  subst e
  rw [add_eq_off _ hs]
  exact hc j u hu

theorem foldl_bytes (bs : List UInt8) : ∀ s : ByteArray, (bs.map fun x => (x.toNat : Int)).foldl (fun r n => r.push (UInt8.ofNat n.toNat)) s = ⟨(s.data.toList ++ bs).toArray⟩ := by
  induction bs with
  | nil => intro s; simp
  | cons x l ih =>
    intro s
    simp only [List.map_cons, List.foldl_cons]
    rw [ih]
    congr 1
    simp [ByteArray.push]

theorem run_conv_bytes {Pr : Nat → Prop} (src dst e : TypeId) (hs : P.underlying src = some (.slice e)) (he : P.underlying e = some (.int .u8)) (hd : P.underlying dst = some .string)
    (A : Option Addr) (n c : Nat) (bs : List UInt8) (hn : n = bs.length) (hr : Rd Pr w A (byV bs)) : (convert src dst (.slice A n c)).run P w = .ok (.string ⟨bs.toArray⟩) w := by
  subst hn
  rw [run_convert_bytes_string w src dst e A _ c hs he hd]
  cases bs with
  | nil =>
    cases A with
    | none => simp [Conv.bytesToString]; rfl
    | some ad =>
      have h : (loadCells ad 0).run P w = .ok (([] : List Int).map (Value.int .u8)).toArray w := by simp [loadCells, loadCellsFrom]
      exact run_bytesToString w ad 0 c [] h
  | cons x l =>
    obtain ⟨ad, rfl, _, _, _⟩ := hr (by simp [byV])
    have h : (loadCells ad (x :: l).length).run P w = .ok (((x :: l).map fun x => (x.toNat : Int)).map (Value.int .u8)).toArray w := by
      have h0 := run_loadCells_list (P := P) (w := w) ad (byV (x :: l)) (fun j v hv => hr.adds w j v hv)
      have e1 : (byV (x :: l)).length = (x :: l).length := byV_length _
      have e2 : ((x :: l).map fun x => (x.toNat : Int)).map (Value.int .u8) = byV (x :: l) := by
        unfold byV; rw [List.map_map]; rfl
      rw [e1] at h0
      rw [h0, e2]
    rw [run_bytesToString w ad _ c _ h, foldl_bytes]
    rfl

theorem run_app_nil (base : Nat) (t ty e : TypeId) (i : TypeInfo) (size : Nat) (ht : P.underlying t = some (.slice e)) (hi : P.info? e = some i)
    (v : Value) (n : Nat) (xs : List Value) (hown : w.ownsRow base e size v n xs) (A : Option Addr) (c : Nat) : (Builtin.append_ #[t, t] ty #[v, .slice A 0 c]).run P w = .ok v w := by
  have hf : (Builtin.firstCells i.size 0 (.slice A 0 c)).run P w = .ok #[] w := by
    cases A <;> simp [Builtin.firstCells, loadCells, loadCellsFrom]
  rcases hown.2 with ⟨rfl, rfl⟩ | ⟨g, cap, cur, rfl, _, _, hnc, _⟩
  · cases A <;> simp [Builtin.append_, run_underlying ht, sizeOf, typeInfo, hi, Builtin.lenOf, Builtin.firstCells, loadCells, loadCellsFrom]
  · cases A <;> simp [Builtin.append_, run_underlying ht, sizeOf, typeInfo, hi, Builtin.lenOf, Builtin.firstCells, hnc, storeCells, loadCells, loadCellsFrom]

theorem run_app {Pr : Nat → Prop} (base : Nat) (t ty e : TypeId) (z : Value) (size bytes : Nat) (ht : P.underlying t = some (.slice e))
    (hinfo : (P.info? e).map (fun i => (i.zero, i.size, i.bytes)) = some (some z, size, bytes)) (hzs : z.cells.size = size) (hsz : 0 < size)
    (v : Value) (n : Nat) (xs : List Value) (hown : w.ownsRow base e size v n xs)
    (A : Option Addr) (m c : Nat) (news : List Value) (hl : news.length = m * size) (hr : Rd Pr w A news) (h1 : ∀ u ∈ news, u.oneCell' = true)
    (hbytes : (n + m) * bytes ≤ 140737488355328) (hb0 : 0 < bytes) (hbase : base ≤ w.heap.size) :
    ∃ v' w', (Builtin.append_ #[t, t] ty #[v, .slice A m c]).run P w = .ok v' w' ∧ w'.ownsRow base e size v' (n + m) (xs ++ news) ∧ w.grownBy w' v.ownBlock ∧
      (v'.ownBlock = v.ownBlock ∨ v'.ownBlock = some w.heap.size) := by
  obtain ⟨i, hi, hz, hsize, hby⟩ := info_parts hinfo
  have h63 : n + m ≤ maxLen := by
    have : (n + m) * 1 ≤ (n + m) * bytes := Nat.mul_le_mul_left _ hb0
    unfold maxLen; omega
  rcases Nat.eq_zero_or_pos m with rfl | hm
  · have hn : news = [] := List.eq_nil_of_length_eq_zero (by simpa using hl)
    subst hn
    exact ⟨v, w, run_app_nil w base t ty e i size ht hi v n xs hown A c, by simpa using hown, World.grownBy.refl w _, .inl rfl⟩
  · have hne : news ≠ [] := by
      rintro rfl
      have := Nat.mul_pos hm hsz
      simp only [List.length_nil] at hl
      omega
    obtain ⟨ad, rfl, _, _, _⟩ := hr hne
    obtain ⟨v', w', hrun, h2, h3, _, h5⟩ := run_append_own_at (P := P) w base t ty e i z size bytes ht hi hz hsize hby hzs hsz v n xs hown ad m c news hl (hr.adds w) h1 h63 hbytes hbase
    exact ⟨v', w', hrun, h2, h3, h5⟩

/-- 'out = append(out, xs...)': out nil or of the call's own. -/
theorem wpList_app {Pr : Nat → Prop} {ops : Array Oper} {rest : List Oper} {o : Oper} {a : Act} {Q : Exit → Act → World → Prop} (hgd : o.guard = none) (s x : Operand) (t : TypeId)
    (ho : o.op = .call { callee := .builtin .append, args := #[s, x], argTypes := #[t, t] })
    (base : Nat) (e : TypeId) (z : Value) (size bytes : Nat) (ht : P.underlying t = some (.slice e))
    (hinfo : (P.info? e).map (fun i => (i.zero, i.size, i.bytes)) = some (some z, size, bytes)) (hzs : z.cells.size = size) (hsz : 0 < size)
    (v : Value) (n : Nat) (xs : List Value) (hs : a.eval s = v) (hown : w.ownsRow base e size v n xs)
    (A : Option Addr) (m c : Nat) (news : List Value) (hx : a.eval x = .slice A m c) (hl : news.length = m * size) (hr : Rd Pr w A news) (h1 : ∀ u ∈ news, u.oneCell' = true)
    (hbytes : (n + m) * bytes ≤ 140737488355328) (hb0 : 0 < bytes) (hbase : base ≤ w.heap.size)
    (h : ∀ v' w', w'.ownsRow base e size v' (n + m) (xs ++ news) → Fr (fun k => v.ownBlock = some k) w w' → (v'.ownBlock = v.ownBlock ∨ v'.ownBlock = some w.heap.size) → wpList P ops Q rest (a.put o.dst v') w') :
    wpList P ops Q (o :: rest) a w := by
  refine wpList_plain hgd fun K hK => ?_
  obtain ⟨v', w', hrun, h2, h3, h4⟩ := run_app (P := P) w base t o.type e z size bytes ht hinfo hzs hsz v n xs hown A m c news hl hr h1 hbytes hb0 hbase
  unfold Oper.wp execOp
  simp only [ho, resolve, invoke, builtin, Sem.run_bind, Sem.run_pure, Result.andThen_ok, List.map_toArray, List.map_cons, List.map_nil, hs, hx, hrun]
  exact hK _ _ (h v' w' h2 ((Fr.of_grown h3).mono fun k _ hk => hk.symm) h4)
/-- 'out = append(out, s...)', s a string. -/
theorem wpList_app_str {ops : Array Oper} {rest : List Oper} {o : Oper} {a : Act} {Q : Exit → Act → World → Prop} (hgd : o.guard = none) (sl x : Operand) (t u : TypeId)
    (ho : o.op = .call { callee := .builtin .append, args := #[sl, x], argTypes := #[t, u] })
    (base : Nat) (e : TypeId) (ht : P.underlying t = some (.slice e)) (hu : P.underlying u = some .string)
    (hinfo : (P.info? e).map (fun i => (i.zero, i.size, i.bytes)) = some (some (.int .u8 0), 1, 1))
    (v : Value) (n : Nat) (xs : List Value) (hs : a.eval sl = v) (hown : w.ownsRow base e 1 v n xs) (l : List UInt8) (hx : a.eval x = .string ⟨l.toArray⟩)
    (hbytes : n + l.length ≤ 140737488355328) (hbase : base ≤ w.heap.size)
    (h : ∀ v' w', w'.ownsRow base e 1 v' (n + l.length) (xs ++ byV l) → Fr (fun k => v.ownBlock = some k) w w' → wpList P ops Q rest (a.put o.dst v') w') :
    wpList P ops Q (o :: rest) a w := by
  obtain ⟨i, hi, hz, hsize, hby⟩ := info_parts hinfo
  have hsz : (⟨l.toArray⟩ : ByteArray).size = l.length := by simp [ByteArray.size]
  refine Lib.wpList_append_own_string (P := P) (w := w) hgd sl x t u ho base e i ht hu hi hz hsize hby v n xs hs hown _ hx (by rw [hsz]; unfold maxLen; omega) (by rw [hsz]; exact hbytes) hbase ?_
  intro v' w' h1 h2 _
  rw [hsz] at h1
  exact h v' w' h1 ((Fr.of_grown h2).mono fun k _ hk => hk.symm)
end

/-! ### bits -/
theorem or15 (a b : Int) : bits .or .i64 (a % 16) (b % 16 * 16) = a % 16 + b % 16 * 16 := by
  have h : ∀ x y : Fin 16, bits .or .i64 (x.val : Int) ((y.val : Int) * 16) = (x.val : Int) + (y.val : Int) * 16 := by decide +kernel
  have h1 : 0 ≤ a % 16 ∧ a % 16 < 16 := by omega
  have h2 : 0 ≤ b % 16 ∧ b % 16 < 16 := by omega
  have := h ⟨(a % 16).toNat, by omega⟩ ⟨(b % 16).toNat, by omega⟩
  simp only [Int.toNat_of_nonneg h1.1, Int.toNat_of_nonneg h2.1] at this
  exact this

theorem and15 (a : Int) : bits .and .i64 a 15 = a % 16 := by
  have h : ∀ x : BitVec 64, (x &&& 15#64).toNat = x.toNat % 16 := fun x => by
    have := Nat.and_two_pow_sub_one_eq_mod x.toNat 4
    simpa using this
  show IntKind.i64.wrap ((BitVec.ofInt 64 a &&& 15#64).toNat : Int) = a % 16
  rw [h, BitVec.toNat_ofInt, IntKind.wrap_i64]
  omega
theorem and255 (a : Int) : bits .and .i64 a 255 = a % 256 := by
  have h : ∀ x : BitVec 64, (x &&& 255#64).toNat = x.toNat % 256 := fun x => by
    have := Nat.and_two_pow_sub_one_eq_mod x.toNat 8
    simpa using this
  show IntKind.i64.wrap ((BitVec.ofInt 64 a &&& 255#64).toNat : Int) = a % 256
  rw [h, BitVec.toNat_ofInt, IntKind.wrap_i64]
  omega

end Go.Proofs.YthcbjeeajoliiaaGreatDoor
