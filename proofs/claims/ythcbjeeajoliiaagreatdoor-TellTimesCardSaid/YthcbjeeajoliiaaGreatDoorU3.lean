/- The net's Accept; a quiet server. -/
import Derived.Test.YthcbjeeajoliiaaGreatDoorU2
set_option linter.unusedVariables false
set_option linter.unusedSimpArgs false
namespace Go.Proofs.YthcbjeeajoliiaaGreatDoor
open Go.RowKit
open Cr (Str)

theorem take_at {l : List Value} {m : Nat} {xs : List Value} (h : l.take m = xs) {i : Nat} {v : Value} (hv : xs[i]? = some v) : l[i]? = some v := by
  rw [← h, List.getElem?_take] at hv
  split at hv
  · exact hv
  · cases hv

theorem qnet_accept {B : Nat} {w : World} {gN : Nat} {bs : List Nat} {d b : Nat} {ds : List Nat} (h : QNet B w gN bs (d :: ds)) (hbb : bs[d]? = some b) (u' : Value) (hu : Dials B w u' ds) :
    QNet B ((w.setCell ⟨gN, 1, none⟩ u').setCell ⟨b, 4, none⟩ (.bool true)) gN bs ds ∧ Fr (TyS B [56, 70] w) w ((w.setCell ⟨gN, 1, none⟩ u').setCell ⟨b, 4, none⟩ (.bool true)) := by
  obtain ⟨hbase, ⟨v, u, hb, hov, _⟩, hcs, hlt⟩ := h
  obtain ⟨hBb, t, c, hcb⟩ := hcs b (List.mem_of_getElem? hbb)
  have hf1 : Fr (fun i => i = gN) w (w.setCell ⟨gN, 1, none⟩ u') := by
    refine Fr.setCell (Fr.refl _ _) ?_ _
    intro _; rfl
  have hb1 := hb.set_ 1 u'
  have hcb1 := hcb.off hf1 (Off.one hb (by decide))
  have hf2 : Fr (fun i => i = b) (w.setCell ⟨gN, 1, none⟩ u') ((w.setCell ⟨gN, 1, none⟩ u').setCell ⟨b, 4, none⟩ (.bool true)) := by
    refine Fr.setCell (Fr.refl _ _) ?_ _
    intro _; rfl
  refine ⟨⟨hbase, ⟨v, u', (hb1.off hf2 (Off.one hcb1 (by decide))), own_off (own_off hov hf1 (Off.one hb (by decide))) hf2 (Off.one hcb1 (by decide)), (hu.off hf1 (Off.one hb (by decide))).off hf2 (Off.one hcb1 (by decide))⟩, ?_, fun x hx => hlt x (List.mem_cons_of_mem _ hx)⟩, TyS.then (TyS.one hf1 hb hbase (by simp)) (TyS.one hf2 hcb1 hBb (by simp))⟩
  intro b' hb'
  obtain ⟨h1, t', c', h2⟩ := hcs b' hb'
  by_cases he : b' = b
  · subst he
    exact ⟨h1, true, c, hcb1.set_ 4 _⟩
  · exact ⟨h1, t', c', (h2.off hf1 (Off.one hb (by decide))).fr hf2 he⟩

set_option maxRecDepth 100000 in
theorem accept_quiet (B : Nat) (w : World) (gN : Nat) (bs : List Nat) (d : Nat) (ds : List Nat) (h : QNet B w gN bs (d :: ds)) :
    Calls Tryz.prog 67 #[.pointer (some ⟨gN, 0, none⟩)] w fun e w' => e = .returned (.tuple #[.int .i64 d, .bool true]) ∧ QNet B w' gN bs ds ∧ Fr (TyS B [56, 70] w) w w' := by
  have hd := h.lt d (by simp)
  obtain ⟨b, hbb⟩ : ∃ b, bs[d]? = some b := ⟨bs[d], by simp [hd]⟩
  have HE := Lib.hid (fun u' hu => qnet_accept h hbb u' hu)
  obtain ⟨hbase, ⟨v, u, hb, hov, D, cD, rfl, hcD, hds⟩, hcs, hlt⟩ := h
  obtain ⟨gD, off, csD, rfl, hgD, hbD, hD⟩ := hds (by simp)
  obtain ⟨gr, k0, rfl, hk0, hgr, hgrl⟩ := hov.ofPos (by omega)
  obtain ⟨hBb, t, c, hcb⟩ := hcs b (List.mem_of_getElem? hbb)
  have p0 : w.cell? ⟨gr, d, none⟩ = some (.pointer (some ⟨b, 0, none⟩)) := hov.at_ (ptrsV_at hbb)
  have p1 : w.cell? ⟨gD, off, none⟩ = some (.int .i64 d) := by rw [hbD.cell off]; simpa using hD 0 d rfl
  have c0 : w.cell? ⟨gN, 0, none⟩ = some (.slice (some ⟨gr, 0, none⟩) bs.length k0) := hb.cell 0
  have c1 : w.cell? ⟨gN, 1, none⟩ = some (.slice (some ⟨gD, off, none⟩) (ds.length + 1) cD) := hb.cell 1
  have z1 : w.frozen? ⟨gN, 1, none⟩ = false := hb.frozen 1
  have hne1 : ¬ gr = gN := by
    rintro rfl
    obtain ⟨_, cs, hB⟩ := own_blk hov rfl
    exact hB.ne_ hb (by decide) rfl
  have hne2 : ¬ b = gN := hcb.ne_ hb (by decide)
  have z4 : w.frozen? ⟨b, 4, none⟩ = false := hcb.frozen 4
  have y4 : w.cell? ⟨b, 4, none⟩ = some (.bool t) := hcb.cell 4
  have hcD' : ds.length + 1 ≤ cD := by simpa using hcD
  have hcD1 : (1 : Int) ≤ (ds.length : Int) + 1 := by omega
  have HD := Lib.hid hD
  have hdk : (d : Int) < (bs.length : Int) := by omega
  clear hcs hds hcD hov hb hcb hD hlt
  by_cases hc1 : cD = 1
  · subst hc1
    have hU : Dials B w (.slice (some ⟨gD, off, none⟩) ds.length 0) ds := by
      have : ds = [] := List.eq_nil_of_length_eq_zero (by omega)
      subst this
      exact ⟨_, _, rfl, by simp, fun h => absurd rfl h⟩
    have hd0 : ds.length = 0 := by omega
    have hU2 := HE.out _ hU
    rw [hd0] at hU2
    have HU := Lib.hid hU2
    clear hU hU2 hd0
    go_enter Tryz.func67, Tryz.ntmps67
    go_wp2_with fail
    go_ret2
    exact ⟨rfl, HU.out.1, HU.out.2⟩
  · have hU : Dials B w (.slice (some ⟨gD, off + 1, none⟩) ds.length (cD - 1)) ds :=
      ⟨_, _, rfl, by omega, fun _ => ⟨gD, off + 1, csD, rfl, hgD, hbD, fun j x hx => by
        have := HD.out (j + 1) x (by simpa using hx)
        rw [← this]
        congr 1
        omega⟩⟩
    have HU := Lib.hid (HE.out _ hU)
    clear hU
    go_enter Tryz.func67, Tryz.ntmps67
    go_wp2_with fail
    go_ret2
    exact ⟨rfl, HU.out.1, HU.out.2⟩

/-- What of a server does not change while it is quiet. -/
structure SP where
  gN : Nat
  gW : Nat
  gq : Nat
  gk : Nat
  wk : Nat
  conns : Int
  jobs : Int
  workers : Int
  window : Int
  idle : Int
  drain : Int
  token : Str
def srvV (p : SP) (vC : Value) (now : Int) : Array Value := #[.pointer (some ⟨p.gN, 0, none⟩), .int .i64 p.conns, .int .i64 p.jobs, .int .i64 p.workers, .int .i64 p.window, .int .i64 p.idle, .int .i64 p.drain, .string ⟨p.token.toArray⟩, .pointer (some ⟨p.gW, 0, none⟩), .pointer (some ⟨p.gq, 0, none⟩), vC, .slice (some ⟨p.gk, 0, none⟩) p.wk p.wk, .int .i64 now, .int .i64 0, .int .i64 0, .slice none 0 0, .int .i64 0]
/-- A connection that the server took, on which nothing came. -/
def sconnV (bb : Nat) (id : Nat) (cc : Nat) : Array Value := #[.pointer (some ⟨bb, 0, none⟩), .int .i64 id, .pointer (some ⟨cc, 0, none⟩), .int .i64 0, .pointer none, .bool false, .int .i64 (-1), .int .i64 0]
def SConn (B : Nat) (w : World) (b id : Nat) : Prop := ∃ bb cc r n, B ≤ b ∧ B ≤ bb ∧ B ≤ cc ∧ Blk w b 104 (sconnV bb id cc) ∧ Blk w bb 141 (bufV r n) ∧ Blk w cc 146 cutterV
theorem SConn.off {S : Nat → Prop} {B : Nat} {w w' : World} {b id : Nat} (h : SConn B w b id) (hf : Fr S w w') (ho : Off S w [104, 141, 146]) : SConn B w' b id := by
  obtain ⟨bb, cc, r, n, h1, h2, h3, h4, h5, h6⟩ := h
  exact ⟨bb, cc, r, n, h1, h2, h3, h4.off hf (ho.less (by simp)), h5.off hf (ho.less (by simp)), h6.off hf (ho.less (by simp))⟩
theorem WorldNew.off {S : Nat → Prop} {B : Nat} {w w' : World} {gw : Nat} {tok : Str} (h : WorldNew B w gw tok) (hf : Fr S w w') (ho : Off S w [93, 133]) : WorldNew B w' gw tok := by
  obtain ⟨gs, gh, q, A, n, k, h1, h2, h3, h4, h5⟩ := h
  exact ⟨gs, gh, q, A, n, k, h1, h2, h3, h4.off hf (ho.less (by simp)), h5.off hf (ho.less (by simp))⟩
theorem QueueNew.off {S : Nat → Prop} {B : Nat} {w w' : World} {gq : Nat} {x : Int} (h : QueueNew B w gq x) (hf : Fr S w w') (ho : Off S w [98, 111]) : QueueNew B w' gq x := by
  obtain ⟨r, n, h1, h2, h3, h4, h5⟩ := h
  exact ⟨r, n, h1, h2, h3, h4.off hf (ho.less (by simp)), h5.off hf (ho.less (by simp))⟩
theorem WorkNew.off {S : Nat → Prop} {B : Nat} {w w' : World} {gk n : Nat} (h : WorkNew B w gk n) (hf : Fr S w w') (ho : Off S w [120]) : WorkNew B w' gk n := ⟨h.1, h.2.off hf ho⟩

/-- What a quiet server has beside its net and its own block. -/
structure QRest (B : Nat) (w : World) (p : SP) : Prop where
  world : WorldNew B w p.gW p.token
  queue : QueueNew B w p.gq p.jobs
  work : WorkNew B w p.gk p.wk
  wk4 : p.wk ≤ 4
theorem QRest.off {S : Nat → Prop} {B : Nat} {w w' : World} {p : SP} (h : QRest B w p) (hf : Fr S w w') (ho : Off S w [93, 133, 98, 111, 120]) : QRest B w' p :=
  ⟨h.1.off hf (ho.less (by simp)), h.2.off hf (ho.less (by simp)), h.3.off hf (ho.less (by simp)), h.4⟩

/-- A quiet server: its connections (block, number), the clients, those that wait, the time. -/
structure QSt (B : Nat) (w : World) (g : Nat) (p : SP) (sb : List (Nat × Nat)) (bs ds : List Nat) (now : Int) : Prop where
  base : B ≤ g
  srv : ∃ vC, Blk w g 39 (srvV p vC now) ∧ w.ownsRow B 99 1 vC sb.length (ptrsV (sb.map (·.1)))
  conns : ∀ x ∈ sb, SConn B w x.1 x.2 ∧ x.2 < bs.length
  net : QNet B w p.gN bs ds
  rest : QRest B w p
theorem QSt.off {S : Nat → Prop} {B : Nat} {w w' : World} {g : Nat} {p : SP} {sb : List (Nat × Nat)} {bs ds : List Nat} {now : Int} (h : QSt B w g p sb bs ds now) (hf : Fr S w w')
    (ho : Off S w [39, 99, 104, 141, 146, 56, 66, 3, 70, 93, 133, 98, 111, 120]) : QSt B w' g p sb bs ds now := by
  obtain ⟨h1, ⟨vC, h2, h3⟩, h4, h5, h6⟩ := h
  exact ⟨h1, ⟨vC, h2.off hf (ho.less (by simp)), own_off h3 hf (ho.less (by simp))⟩, fun x hx => ⟨(h4 x hx).1.off hf (ho.less (by simp)), (h4 x hx).2⟩, h5.off hf (ho.less (by simp)), h6.off hf (ho.less (by simp))⟩
theorem QSt.no {B : Nat} {w w' : World} {g : Nat} {p : SP} {sb : List (Nat × Nat)} {bs ds : List Nat} {now : Int} (h : QSt B w g p sb bs ds now) (hf : Fr No w w') : QSt B w' g p sb bs ds now := h.off hf (Off.no _ _)
end Go.Proofs.YthcbjeeajoliiaaGreatDoor
