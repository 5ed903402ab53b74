/- A quiet server told. -/
import Derived.Test.YthcbjeeajoliiaaGreatDoorUA
set_option linter.unusedVariables false
set_option linter.unusedSimpArgs false
namespace Go.Proofs.YthcbjeeajoliiaaGreatDoor
open Go.RowKit
open Cr (Str)

theorem isBuilder_fr {T e : TypeId} {B b : Nat} {bs : List Value} {w w' : World} (h : Lib.IsBuilder T e B b bs w) (hf : Fr No w w') : Lib.IsBuilder T e B b bs w' := by
  rcases h with ⟨h1, v, h2, h3, h4⟩ | ⟨h1, v, h2, h3, h4⟩
  · exact .inl ⟨h1, v, hf.heap h2 id, h3.fr hf (fun _ _ => id), h4⟩
  · exact .inr ⟨h1, v, hf.heap h2 id, h3.fr hf (fun _ _ => id), h4⟩
theorem fr_below {B : Nat} {w w' : World} (h : Below B w w') : Fr (fun k => B ≤ k) w w' := ⟨h.os, h.tape, h.output, h.size, fun k _ hn => h.block k (by omega)⟩

theorem itoa_0 (W : World) : Calls Tryz.prog 37 #[.int .i64 0] W fun e w' => e = .returned (.string ⟨#[48]⟩) ∧ w' = W := by
  have h := Sh.Itoa_small 0 (by decide) W
  rw [Lib.decDigits_one (by decide)] at h
  exact h
theorem itoa_1 (W : World) : Calls Tryz.prog 37 #[.int .i64 1] W fun e w' => e = .returned (.string ⟨#[49]⟩) ∧ w' = W := by
  have h := Sh.Itoa_small 1 (by decide) W
  rw [Lib.decDigits_one (by decide)] at h
  exact h

set_option maxRecDepth 100000 in
theorem version_quiet (B : Nat) (w : World) (g gW : Nat) (tok : Str) (hc : w.cell? ⟨g, 8, none⟩ = some (.pointer (some ⟨gW, 0, none⟩))) (hW : WorldNew B w gW tok) :
    Calls Tryz.prog 39 #[.pointer (some ⟨g, 0, none⟩)] w fun e w' => e = .returned (.int .i64 1) ∧ Fr No w w' := by
  obtain ⟨gs, gh, q, A, n, k, _, _, _, hw, hh⟩ := hW
  have HL := Lib.hid (load_at w gh q 1 A n k hh)
  have c1 : w.cell? ⟨gW, 1, none⟩ = some (.pointer (some ⟨gh, 0, none⟩)) := hw.cell 1
  clear hw hh
  go_enter Tryz.func39, Tryz.ntmps39
  go_wp2_with (go_at_call 63; refine HL.out.mono (Hid.out ?_))
  refine Lib.hid ?_
  rintro e w1 ⟨rfl, hf1⟩
  have hfd : ∀ W, (Instr.field 123 (.agg #[.pointer q, .int .i64 1, .slice A n k]) 1).run Tryz.prog W = .ok (.int .i64 1) W := fun W => by kernel_rfl
  go_wp2_with fail
  go_ret
  exact ⟨rfl, hf1⟩

theorem infoStrT : (Tryz.prog.info? 9).map (fun i => (i.zero, i.size, i.bytes)) = some (some (.string ⟨#[]⟩), 1, 16) := by kernel_rfl

theorem cat_is {P : Program} (a b c : Str) (h : a ++ b = c) (hl : a.length + b.length ≤ 9223372036854775807) : ∀ w, (Op.stringOp .add ⟨a.toArray⟩ ⟨b.toArray⟩).run P w = .ok (.string ⟨c.toArray⟩) w := by
  subst h
  exact run_cat a b hl

/-- The line that is told. -/
def tellStr (now live : Nat) : Str := [114, 117, 110, 110, 105, 110, 103, 32] ++ (Lib.decDigits now ++ ([32] ++ (Lib.decDigits live ++ [32, 48, 32, 49, 10])))
theorem dec_len {n : Nat} (h : n < 100) : (Lib.decDigits n).length ≤ 2 := by
  by_cases h1 : n < 10
  · rw [Lib.decDigits_one h1]; simp
  · rw [Lib.decDigits_two h1 h]; simp

set_option maxRecDepth 100000 in
set_option maxHeartbeats 4000000 in
theorem tell_quiet (B : Nat) (w : World) (g : Nat) (p : SP) (sb : List (Nat × Nat)) (bs ds : List Nat) (now : Nat) (h : QSt B w g p sb bs ds now) (hnow : now < 100) (hlive : sb.length < 100) (hbs : bs.length ≤ 1000) :
    Calls Tryz.prog 19 #[.pointer (some ⟨g, 0, none⟩)] w fun e w' => e = .returned (.string ⟨(tellStr now sb.length).toArray⟩) ∧ Fr No w w' := by
  have HM81 : ∀ (x : Value) (w : World), (invoke (.fn (.method "Lines") #[]) #[.iface 81 x]).run Tryz.prog w = .ok (.enter 253 #[x]) w := fun _ _ => by kernel_rfl
  have HM72 : ∀ (x : Value) (w : World), (invoke (.fn (.method "Lines") #[]) #[.iface 72 x]).run Tryz.prog w = .ok (.enter 238 #[x]) w := fun _ _ => by kernel_rfl
  obtain ⟨b0, hb0⟩ : ∃ n, w.heap.size = n := ⟨_, rfl⟩
  have Hb0 := Lib.hid hb0
  clear hb0
  have HQ := Lib.hid h
  obtain ⟨hbase, ⟨vC, hb, hov⟩, hcs, hnet, hrest⟩ := h
  have hglt := Lib.hid hb.lt
  obtain ⟨vN, u, hbN, hovN, _⟩ := hnet.row
  obtain ⟨A0, k0, rfl, hk0, _⟩ := own_form hov
  obtain ⟨AN, kN, rfl, hkN, _⟩ := own_form hovN
  have s0 : w.cell? ⟨g, 0, none⟩ = some (.pointer (some ⟨p.gN, 0, none⟩)) := hb.cell 0
  have n0 : w.cell? ⟨p.gN, 0, none⟩ = some (.slice AN bs.length kN) := hbN.cell 0
  have HLen := Lib.hid (len_at w p.gN AN bs.length kN n0)
  have HWr : Hid (∀ i, i < bs.length → ∀ W, Fr No w W → Calls Tryz.prog 17 #[.pointer (some ⟨p.gN, 0, none⟩), .int .i64 i] W fun e w' => e = .returned (.string ⟨#[]⟩) ∧ w' = W) := Lib.hid fun i hi W hW => by
    obtain ⟨gr, k, b, t, c, h0, h1, _, _, h2⟩ := (HQ.out.no hW).net.client hi
    exact written_in W p.gN i bs.length k gr 0 b ⟨#[]⟩ h0 hi h1 (h2.cell 6)
  obtain ⟨nb, hnb⟩ : ∃ n, bs.length = n := ⟨_, rfl⟩
  rw [hnb] at HLen n0 HWr hbs
  clear hnb hovN hbN hnet hcs hov hrest hb
  go_enter Tryz.func19, Tryz.ntmps19
  go_wp2_with (go_at_call 10; refine HLen.out.mono (Hid.out ?_))
  refine Lib.hid ?_
  rintro e w1 ⟨rfl, hf1⟩
  have q0 := hf1.cell s0 id
  have Hf1 := Lib.hid hf1
  clear hf1 HLen n0 s0
  go_wp2_with fail
  go_loopg [3, 16] nb (fun gm v i wr => ∃ k : Nat, k + gm = nb ∧ i = .int .i64 k ∧ wr.ownsRow b0 9 1 v k (List.replicate k (.string ⟨#[]⟩)) ∧ Fr No w wr)
  case atStart => exact ⟨0, by omega, rfl, ⟨by simp, .inl ⟨rfl, rfl⟩⟩, Hf1.out⟩
  case round =>
    obtain ⟨k, hkk, rfl, hown, hfr⟩ := hrel
    have hszr := hfr.size
    have hb0 := Hb0.out
    by_cases hlt : k < nb
    · have hlt' : (k : Int) < (nb : Int) := by omega
      have r0 := (HQ.out.no hfr).srv
      have r1 : wr.cell? ⟨g, 0, none⟩ = some (.pointer (some ⟨p.gN, 0, none⟩)) := by
        obtain ⟨_, hbg, _⟩ := r0
        exact hbg.cell 0
      have HW := Lib.hid (HWr.out k hlt wr hfr)
      obtain ⟨Ar, cr, rfl, hcr, _⟩ := own_form hown
      clear r0 q0
      go_wp2_with (go_at_call 17; refine HW.out.mono (Hid.out ?_))
      refine Lib.hid ?_
      rintro e w2 ⟨rfl, rfl⟩
      rw [hb0] at hszr
      clear hb0
      go_wp2_with (at_builtin; go_must (refine wpList_app (Pr := fun _ => True) _ rfl (.tmp 19) (.tmp 26) _ rfl b0 9 _ 1 16 Tryz.underlying72 infoStrT rfl (by decide) (.slice Ar k cr) k (List.replicate k (.string ⟨#[]⟩)) rfl ?a0 _ 1 1 [.string ⟨#[]⟩] rfl rfl ?a2 ?a3 ?a4 (by decide) ?a5 ?_))
      case a0 => exact hown.alloc _
      case a2 => exact Rd.mono (Rd.newAt rfl rfl) (fun _ _ _ => trivial)
      case a3 => intro u hu; simp at hu; subst hu; rfl
      case a4 => omega
      case a5 => simp; omega
      intro v1 w3 hown3 hf3 _
      have hf23 : Fr No w w3 := (hfr.alloc _).trans hf3 (fun i hi h => by have := (hown.lt i h).1; have := Hb0.out; omega)
      clear hf3
      go_wp2_with fail
      go_roundg (gk - 1)
      case measure => omega
      case rel =>
        refine ⟨k + 1, by omega, by go_num, ?_, hf23⟩
        rw [List.replicate_succ']
        exact hown3
    · have hlt' : ¬ (k : Int) < (nb : Int) := by omega
      obtain rfl : k = nb := by omega
      clear hb0
      obtain ⟨wL, hwL⟩ : ∃ x, x = wr := ⟨_, rfl⟩
      subst hwL
      obtain ⟨Ar, cr, rfl, hcr, hrd⟩ := own_form hown
      have hfA := hfr.alloc (.cells #[.pointer none, .slice none 0 0] 75)
      obtain ⟨_, ⟨vC1, hb1, hov1⟩, _, _, hrest1⟩ := HQ.out.no hfA
      obtain ⟨A1, k1, rfl, hk1, _⟩ := own_form hov1
      obtain ⟨rq, nq, _, _, _, hqq, _⟩ := hrest1.queue
      have hbn := Blk.new wL 75 #[.pointer none, .slice none 0 0]
      have HB0 : Hid (Lib.IsBuilder 75 5 wL.heap.size wL.heap.size [] (wL.alloc (.cells #[.pointer none, .slice none 0 0] 75))) :=
        Lib.hid (.inl ⟨Nat.le_refl _, .slice none 0 0, hbn, ⟨rfl, .inl ⟨rfl, rfl⟩⟩, by simp [Value.ownBlock]⟩)
      have HMode := Lib.hid (mode_at _ g 0 (hb1.cell 13))
      have HNow := Lib.hid (nowS_at _ g now (hb1.cell 12))
      have HLive := Lib.hid (live_at _ g A1 sb.length k1 (hb1.cell 10))
      have HQd := Lib.hid (queued_at _ g p.gq 0 (hb1.cell 9) (hqq.cell 2))
      have HVer := Lib.hid (version_quiet B _ g p.gW p.token (hb1.cell 8) hrest1.world)
      have HI1 := Lib.hid (fun W => Sh.Itoa_small now hnow W)
      have HI2 := Lib.hid (fun W => Sh.Itoa_small sb.length hlive W)
      have d1 := dec_len hnow
      have d2 := dec_len hlive
      have htell : ∀ s1 s2 s3 s4 s5 s6 s7 s8 : Str, [114, 117, 110, 110, 105, 110, 103, 32] ++ Lib.decDigits now = s1 → s1 ++ [32] = s2 → s2 ++ Lib.decDigits sb.length = s3 → s3 ++ [32] = s4 → s4 ++ [48] = s5 → s5 ++ [32] = s6 → s6 ++ [49] = s7 → s7 ++ [10] = s8 → s8 = tellStr now sb.length := by
        rintro s1 s2 s3 s4 s5 s6 s7 s8 rfl rfl rfl rfl rfl rfl rfl rfl
        simp [tellStr]
      have Htell := Lib.hid htell
      clear htell hqq hrest1 hov1 hbn
      generalize Lib.decDigits now = D1 at HI1 d1 Htell
      generalize Lib.decDigits sb.length = D2 at HI2 d2 Htell
      obtain ⟨s1, e1⟩ : ∃ s : Str, [114, 117, 110, 110, 105, 110, 103, 32] ++ D1 = s := ⟨_, rfl⟩
      obtain ⟨s2, e2⟩ : ∃ s : Str, s1 ++ [32] = s := ⟨_, rfl⟩
      obtain ⟨s3, e3⟩ : ∃ s : Str, s2 ++ D2 = s := ⟨_, rfl⟩
      obtain ⟨s4, e4⟩ : ∃ s : Str, s3 ++ [32] = s := ⟨_, rfl⟩
      obtain ⟨s5, e5⟩ : ∃ s : Str, s4 ++ [48] = s := ⟨_, rfl⟩
      obtain ⟨s6, e6⟩ : ∃ s : Str, s5 ++ [32] = s := ⟨_, rfl⟩
      obtain ⟨s7, e7⟩ : ∃ s : Str, s6 ++ [49] = s := ⟨_, rfl⟩
      obtain ⟨s8, e8⟩ : ∃ s : Str, s7 ++ [10] = s := ⟨_, rfl⟩
      have He := Lib.hid (Htell.out s1 s2 s3 s4 s5 s6 s7 s8 e1 e2 e3 e4 e5 e6 e7 e8)
      have l1 : s1.length = 8 + D1.length := by rw [← e1]; simp; omega
      have l2 : s2.length = s1.length + 1 := by rw [← e2]; simp
      have l3 : s3.length = s2.length + D2.length := by rw [← e3]; simp
      have l4 : s4.length = s3.length + 1 := by rw [← e4]; simp
      have l5 : s5.length = s4.length + 1 := by rw [← e5]; simp
      have l6 : s6.length = s5.length + 1 := by rw [← e6]; simp
      have l7 : s7.length = s6.length + 1 := by rw [← e7]; simp
      have l8 : s8.length = s7.length + 1 := by rw [← e8]; simp
      have c0 := cat_is (P := Tryz.prog) [114, 117, 110, 110, 105, 110, 103] [32] _ rfl (by simp)
      have c1 := cat_is (P := Tryz.prog) _ _ _ e1 (by simp; omega)
      have c2 := cat_is (P := Tryz.prog) _ _ _ e2 (by simp; omega)
      have c3 := cat_is (P := Tryz.prog) _ _ _ e3 (by omega)
      have c4 := cat_is (P := Tryz.prog) _ _ _ e4 (by simp; omega)
      have c5 := cat_is (P := Tryz.prog) _ _ _ e5 (by simp; omega)
      have c6 := cat_is (P := Tryz.prog) _ _ _ e6 (by simp; omega)
      have c7 := cat_is (P := Tryz.prog) _ _ _ e7 (by simp; omega)
      have c8 := cat_is (P := Tryz.prog) _ _ _ e8 (by simp; omega)
      have l9 : s8.length ≤ 100 := by omega
      clear e1 e2 e3 e4 e5 e6 e7 e8 Htell l1 l2 l3 l4 l5 l6 l7 l8 d1 d2
      have hgl := hb1.lt
      have hix : ∀ W, (Instr.index 76 (.agg #[.string ⟨#[114, 117, 110, 110, 105, 110, 103]⟩, .string ⟨#[100, 114, 97, 105, 110, 105, 110, 103]⟩, .string ⟨#[115, 116, 111, 112, 112, 101, 100]⟩]) (.int .i64 0)).run Tryz.prog W = .ok (.string ⟨#[114, 117, 110, 110, 105, 110, 103]⟩) W := fun W => by kernel_rfl
      have hsb := Lib.hid hb1
      have hrl : Rd (fun i => i < wL.heap.size) wL Ar (List.replicate k (.string ⟨#[]⟩)) := hrd.mono fun i hi _ => hi
      clear hb1 hown
      go_wp2_with (go_at_call 15; refine HMode.out.mono (Hid.out ?_))
      refine Lib.hid ?_
      first | (rintro e w1 ⟨rfl, rfl⟩) | (rintro e w1 rfl rfl) | skip
      go_wp2_with (go_at_call 9; refine HNow.out.mono (Hid.out ?_))
      refine Lib.hid ?_
      first | (rintro e w1 ⟨rfl, rfl⟩) | (rintro e w1 rfl rfl) | skip
      go_wp2_with (go_at_call 37; refine (HI1.out _).mono (Hid.out ?_))
      refine Lib.hid ?_
      first | (rintro e w1 ⟨rfl, rfl⟩) | (rintro e w1 rfl rfl) | skip
      go_wp2_with (go_at_call 13; refine HLive.out.mono (Hid.out ?_))
      refine Lib.hid ?_
      first | (rintro e w1 ⟨rfl, rfl⟩) | (rintro e w1 rfl rfl) | skip
      go_wp2_with (go_at_call 37; refine (HI2.out _).mono (Hid.out ?_))
      refine Lib.hid ?_
      first | (rintro e w1 ⟨rfl, rfl⟩) | (rintro e w1 rfl rfl) | skip
      go_wp2_with (go_at_call 38; refine HQd.out.mono (Hid.out ?_))
      refine Lib.hid ?_
      first | (rintro e w1 ⟨rfl, rfl⟩) | (rintro e w1 rfl rfl) | skip
      go_wp2_with (go_at_call 37; refine (itoa_0 _).mono (Hid.out ?_))
      refine Lib.hid ?_
      first | (rintro e w1 ⟨rfl, rfl⟩) | (rintro e w1 rfl rfl) | skip
      go_wp2_with (go_at_call 39; refine HVer.out.mono (Hid.out ?_))
      refine Lib.hid ?_
      rintro e w2 ⟨rfl, hf2⟩
      have HB2 := Lib.hid (isBuilder_fr HB0.out hf2)
      have hs2 := hf2.size
      have hsA : wL.heap.size ≤ w2.heap.size := by have := World.size_alloc wL (.cells #[.pointer none, .slice none 0 0] 75); omega
      go_wp2_with (go_at_call 37; refine (itoa_1 _).mono (Hid.out ?_))
      refine Lib.hid ?_
      first | (rintro e w1 ⟨rfl, rfl⟩) | (rintro e w1 rfl rfl) | skip
      have HW := Lib.hid (writeString_any wL.heap.size wL.heap.size [] s8 _ HB2.out (by simp; omega) hsA)
      go_wp2_with (go_at_call 36; refine HW.out.mono (Hid.out ?_))
      refine Lib.hid ?_
      rintro e w3 ⟨⟨vr, rfl⟩, hB3, hf3⟩
      have hg3 : g < wL.heap.size := by have := hglt.out; have := hfr.size; omega
      have hq3 := (HQ.out.no (hfA.trans hf2 (fun _ _ h => h)))
      obtain ⟨_, ⟨vC3, hb3, _⟩, _, _, _⟩ := hq3
      have hb3' := hb3.fr hf3 (by omega)
      have HLog := Lib.hid (log_nil w3 g (hb3'.cell 15))
      clear hb3 hb3'
      go_wp2_with (go_at_call 16; refine HLog.out.mono (Hid.out ?_))
      refine Lib.hid ?_
      first | (rintro e w1 ⟨rfl, rfl⟩) | (rintro e w1 rfl rfl) | skip
      go_wp2_with fail
      obtain ⟨wZ, hwZ⟩ : ∃ x, x = w1 := ⟨_, rfl⟩
      subst hwZ
      clear HLog
      have hX := Blk.new wZ 84 #[.iface 81 (.slice none 0 0), .iface 72 (.slice Ar k cr)]
      have hfX : Fr (fun i => wL.heap.size ≤ i) wL (wZ.alloc (.cells #[.iface 81 (.slice none 0 0), .iface 72 (.slice Ar k cr)] 84)) :=
        ((((Fr.refl No wL).alloc (.cells #[.pointer none, .slice none 0 0] 75)).trans hf2 (fun _ _ h => h)).mono (fun _ _ h => absurd h id)).trans (hf3.alloc _) (fun _ _ h => h)
      have HBX := Lib.hid (isBuilder_fr hB3 ((Fr.refl No wZ).alloc (.cells #[.iface 81 (.slice none 0 0), .iface 72 (.slice Ar k cr)] 84)))
      go_loopg [8, 63] 2 (fun gm v i wl => ∃ j : Nat, j + gm = 2 ∧ i = .int .i64 j ∧ Fr No (wZ.alloc (.cells #[.iface 81 (.slice none 0 0), .iface 72 (.slice Ar k cr)] 84)) wl)
      case atStart => exact ⟨0, rfl, rfl, Fr.refl _ _⟩
      case round =>
      obtain ⟨j, hj, rfl, hfl⟩ := hrel
      obtain rfl | rfl | rfl : j = 0 ∨ j = 1 ∨ j = 2 := by omega
      · have q0 : wr.cell? ⟨wZ.heap.size, 0, none⟩ = some (.iface 81 (.slice none 0 0)) := hfl.cell (hX.cell 0) id
        go_wp2_with (go_at_call 253; refine (doneLines_nil _).mono (Hid.out ?_))
        refine Lib.hid ?_
        first | (rintro e w1 ⟨rfl, rfl⟩) | (rintro e w1 rfl rfl) | skip
        go_wp2_with fail
        go_loopg [10, 70] 0 (fun gm v i wl2 => i = .int .i64 0 ∧ Fr No (wZ.alloc (.cells #[.iface 81 (.slice none 0 0), .iface 72 (.slice Ar k cr)] 84)) wl2)
        case atStart => exact ⟨rfl, hfl⟩
        case round =>
          obtain ⟨rfl, hfl2⟩ := hrel
          go_wp2_with fail
          go_roundg 1
          case measure => omega
          case rel => exact ⟨1, by omega, rfl, hfl2⟩
      · have q0 : wr.cell? ⟨wZ.heap.size, 1, none⟩ = some (.iface 72 (.slice Ar k cr)) := hfl.cell (hX.cell 1) id
        go_wp2_with (go_at_call 238; refine (wiresLines_empty (fun i => i < wL.heap.size) _ Ar k cr ((hrl.fr hfX (fun i hi h => by omega)).fr hfl (fun _ _ h => h)) (by omega)).mono (Hid.out ?_))
        refine Lib.hid ?_
        first | (rintro e w1 ⟨rfl, rfl⟩) | (rintro e w1 rfl rfl) | skip
        go_wp2_with fail
        go_loopg [10, 70] 0 (fun gm v i wl2 => i = .int .i64 0 ∧ Fr No (wZ.alloc (.cells #[.iface 81 (.slice none 0 0), .iface 72 (.slice Ar k cr)] 84)) wl2)
        case atStart => exact ⟨rfl, hfl⟩
        case round =>
          obtain ⟨rfl, hfl2⟩ := hrel
          go_wp2_with fail
          go_roundg 0
          case measure => omega
          case rel => exact ⟨2, by omega, rfl, hfl2⟩
      · have HBl := Lib.hid (show Lib.IsBuilder 75 5 wL.heap.size wL.heap.size (Lib.byteCells s8) wr from isBuilder_fr HBX.out hfl)
        have hsl := hfX.size
        have hsl2 := hfl.size
        have HS := Lib.hid (Sh.String_any wL.heap.size wL.heap.size s8 _ HBl.out (by omega))
        go_wp2_with (go_at_call 40; refine HS.out.mono (Hid.out ?_))
        refine Lib.hid ?_
        rintro e w5 ⟨rfl, hbel⟩
        go_wp2_with fail
        go_ret
        refine ⟨by rw [He.out]; rfl, ?_⟩
        exact hfr.trans ((hfX.trans hfl (fun _ _ h => absurd h id)).trans (fr_below hbel) (fun _ _ h => h)) (fun i hi h => by have := hfr.size; omega)
end Go.Proofs.YthcbjeeajoliiaaGreatDoor
