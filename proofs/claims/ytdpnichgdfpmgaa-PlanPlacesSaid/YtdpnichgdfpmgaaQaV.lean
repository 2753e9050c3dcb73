/- Walks: slices.SortStableFunc. -/
import Derived.Test.YtdpnichgdfpmgaaQaU
set_option linter.unusedVariables false
set_option linter.unusedSimpArgs false
namespace Go.Proofs.Ytdpnichgdfpmgaa
open Go.RowKit Go.Rt
attribute [local go_sem] Oper.semAt_some
set_option maxRecDepth 100000 in
set_option maxHeartbeats 4000000 in
theorem pstable_any (bk q n cp lc : Nat) (al : Option Addr) (key : Nat → Int) (f : Nat → Nat) (w : World) (h : SF w w bk n f) (hk : KA w bk q n al lc key) (hid : ∀ i, i < n → f i = i) :
    Calls Try.prog 24 #[.slice (some ⟨bk, 0, none⟩) n cp, .int .i64 (n : Nat), .func (.func 19) #[] #[.pointer (some ⟨q, 0, none⟩)]] w fun en w' => en = .returned (.tuple #[]) ∧ ∃ g, SF w w' bk n g ∧ Srt key g 0 n ∧ ∀ i, i < n → g i < n := by
  have hnb := hk.nb
  have F0 := Lib.hid h
  have K0 := Lib.hid hk
  have HIN := Lib.hid (fun g a e za ze W h hk ha he h1 h2 h3 => pins_any bk q n cp lc al key g a e za ze W h hk ha he h1 h2 h3)
  have HSY := Lib.hid (fun a m e za zm ze g W h hk ha hm he h1 h2 h3 hR hv => psym_any bk q n cp lc al key (e - a) a m e za zm ze g W (Nat.le_refl _) h hk ha hm he h1 h2 h3 hR hv)
  have HST := Lib.hid (Stg.start key 20 hid)
  clear h hk hid
  go_enter Try.func24, Try.ntmps24
  go_wp2
  go_loopw [7, 8] (fun s7 s8 wr => ∃ (u a b : Nat) (g : Nat → Nat), s7 = .int .i64 (a : Nat) ∧ s8 = .int .i64 (b : Nat) ∧ a = 20 * u ∧ b = a + 20 ∧ a ≤ n ∧ Hid (Stg key g n 20 a) ∧ Hid (SF w wr bk n g) ∧ Hid (KA wr bk q n al lc key)) (fun s7 _ _ => n - (intOf s7).toNat)
  case atStart => exact ⟨0, 0, 20, f, rfl, rfl, rfl, rfl, Nat.zero_le _, HST, F0, K0⟩
  case round =>
    obtain ⟨u, a, b, g, rfl, rfl, ha, hb, han, HT, F1, K1⟩ := hrel
    clear F0 K0 HST
    obtain ⟨wo, rfl⟩ : ∃ x : World, x = wr := ⟨_, rfl⟩
    by_cases hbn : b ≤ n
    · skip
      go_wp2_with (go_at_call 28; refine (HIN.out g a b _ _ _ F1.out.here K1.out (by omega) (by omega) (by omega) (by omega) (fun i h1 h2 => HT.out.rest i h1 (by omega))).mono ?_; rintro en w2 ⟨rfl, g2, hs, hs1, hs2⟩; have F2 := Lib.hid (F1.out.join hs); have K2 := Lib.hid (K1.out.grown hs.grown); have HT2 : Hid (Stg key g2 n 20 b) := Lib.hid (Stg.step (q := u) (by rw [← ha]; exact HT.out) (by decide) (by omega) (by omega) (by omega) (by rw [← ha]; exact hs1) (by rw [← ha]; exact hs2)); clear hs hs1 hs2 F1 K1 HT)
      go_roundw
      case rel => exact ⟨u + 1, b, b + 20, g2, by first | rfl | exact congrArg (Value.int .i64) (by omega), by first | rfl | exact congrArg (Value.int .i64) (by omega), by omega, rfl, hbn, HT2, F2, K2⟩
      case measure => (simp only [intOf]; omega)
    · skip
      go_wp2_with (go_at_call 28; refine (HIN.out g a n _ _ _ F1.out.here K1.out (by omega) (by omega) (by omega) (by omega) (fun i h1 h2 => HT.out.rest i h1 (by omega))).mono ?_; rintro en w2 ⟨rfl, g2, hs, hs1, hs2⟩; have F2 := Lib.hid (F1.out.join hs); have K2 := Lib.hid (K1.out.grown hs.grown); have HT2 : Hid (Stg key g2 n 20 n) := Lib.hid (Stg.step (q := u) (by rw [← ha]; exact HT.out) (by decide) (by omega) (by omega) (by omega) (by rw [← ha]; exact hs1) (by rw [← ha]; exact hs2)); clear hs hs1 hs2 F1 K1 HT)
      have HBK := Lib.hid HT2.out.blk
      clear HT2
      go_loopw [6] (fun s6 wr => ∃ (bs : Nat) (g : Nat → Nat), s6 = .int .i64 (bs : Nat) ∧ 20 ≤ bs ∧ bs ≤ 2000000 ∧ Hid (Blk key g n bs) ∧ Hid (SF w wr bk n g) ∧ Hid (KA wr bk q n al lc key)) (fun s6 _ => n - (intOf s6).toNat)
      case atStart => exact ⟨20, g2, rfl, by decide, by decide, HBK, F2, K2⟩
      case round =>
        clear HBK F2 K2 HIN
        obtain ⟨bs, g, rfl, hbs1, hbs2, HBK, F1, K1⟩ := hrel
        obtain ⟨wi, rfl⟩ : ∃ x : World, x = wr := ⟨_, rfl⟩
        by_cases hlt : bs < n
        · skip
          have HM0 := Lib.hid (MSt.start HBK.out)
          clear HBK
          go_wp2
          go_loopw [7, 8] (fun s7 s8 wr => ∃ (v a b : Nat) (g : Nat → Nat), s7 = .int .i64 (a : Nat) ∧ s8 = .int .i64 (b : Nat) ∧ Hid (a = 2 * bs * v) ∧ b = a + 2 * bs ∧ a ≤ n ∧ Hid (MSt key g n bs a) ∧ Hid (SF w wr bk n g) ∧ Hid (KA wr bk q n al lc key)) (fun s7 _ _ => n - (intOf s7).toNat)
          case atStart => exact ⟨0, 0, 2 * bs, g, rfl, by first | rfl | go_num, Lib.hid (by rw [Nat.mul_zero]), by omega, Nat.zero_le _, HM0, F1, K1⟩
          case round =>
            clear F1 K1 HM0
            obtain ⟨v, a2, b2, g3, rfl, rfl, HA, hb2, han2, HM, F1, K1⟩ := hrel
            obtain ⟨wk, rfl⟩ : ∃ x : World, x = wr := ⟨_, rfl⟩
            by_cases hbn2 : b2 ≤ n
            · skip
              go_wp2_with (go_at_call 29; refine (HSY.out a2 (a2 + bs) b2 _ _ _ g3 _ F1.out.here K1.out (by omega) (by omega) (by omega) (by omega) (by omega) (by omega) (by rw [HA.out]; exact MSt.runs (q := v) (by rw [← HA.out]; exact HM.out) (by omega) (by rw [← HA.out]; omega) (by rw [← HA.out]; omega) (by omega)) (fun i hi => (HM.out.own i hi).2)).mono ?_; rintro en w2 ⟨rfl, g4, hs, hs1, hs2⟩; have F2 := Lib.hid (F1.out.join hs); have K2 := Lib.hid (K1.out.grown hs.grown); have HM2 : Hid (MSt key g4 n bs b2) := Lib.hid (MSt.step (q := v) (by rw [← HA.out]; exact HM.out) (by omega) (by rw [← HA.out]; omega) (by rw [← HA.out]; omega) (by omega) (by rw [← HA.out]; exact hs1) (by rw [← HA.out]; exact hs2)); clear hs hs1 hs2 F1 K1 HM)
              go_roundw
              case rel => exact ⟨v + 1, b2, b2 + 2 * bs, g4, by first | rfl | exact congrArg (Value.int .i64) (by omega), by first | rfl | exact congrArg (Value.int .i64) (by omega), Lib.hid (by rw [Nat.mul_succ, ← HA.out]; exact hb2), rfl, hbn2, HM2, F2, K2⟩
              case measure => (simp only [intOf]; omega)
            · skip
              by_cases hmn : a2 + bs < n
              · skip
                go_wp2_with (go_at_call 29; refine (HSY.out a2 (a2 + bs) n _ _ _ g3 _ F1.out.here K1.out (by omega) (by omega) (by omega) (by omega) (by omega) (by omega) (by rw [HA.out]; exact MSt.runs (q := v) (by rw [← HA.out]; exact HM.out) (by omega) (by rw [← HA.out]; omega) (by rw [← HA.out]; omega) (by omega)) (fun i hi => (HM.out.own i hi).2)).mono ?_; rintro en w2 ⟨rfl, g4, hs, hs1, hs2⟩; have F2 := Lib.hid (F1.out.join hs); have K2 := Lib.hid (K1.out.grown hs.grown); have HM2 : Hid (MSt key g4 n bs n) := Lib.hid (MSt.step (q := v) (by rw [← HA.out]; exact HM.out) (by omega) (by rw [← HA.out]; omega) (by rw [← HA.out]; omega) (by omega) (by rw [← HA.out]; exact hs1) (by rw [← HA.out]; exact hs2)); clear hs hs1 hs2 F1 K1 HM)
                have HB2 := Lib.hid HM2.out.blk_all
                go_roundw
                case rel => exact ⟨2 * bs, g4, by first | rfl | go_num | exact congrArg (Value.int .i64) (by omega), by omega, by omega, HB2, F2, K2⟩
                case measure => (simp only [intOf]; omega)
              · skip
                have HB2 : Hid (Blk key g3 n (2 * bs)) := Lib.hid (MSt.blk (q := v) (by rw [← HA.out]; exact HM.out) (by omega) (by rw [← HA.out]; omega))
                go_wp2
                go_roundw
                case rel => exact ⟨2 * bs, g3, by first | rfl | go_num | exact congrArg (Value.int .i64) (by omega), by omega, by omega, HB2, F1, K1⟩
                case measure => (simp only [intOf]; omega)
        · skip
          have hfin := HBK.out.all (by omega)
          go_wp2
          go_end0
          exact ⟨rfl, g, F1.out, hfin.1, hfin.2⟩
theorem psort_any (bk q n cp lc : Nat) (al : Option Addr) (key : Nat → Int) (f : Nat → Nat) (w : World) (h : SF w w bk n f) (hk : KA w bk q n al lc key) (hid : ∀ i, i < n → f i = i) :
    Calls Try.prog 18 #[.slice (some ⟨bk, 0, none⟩) n cp, .func (.func 19) #[] #[.pointer (some ⟨q, 0, none⟩)]] w fun en w' => en = .returned (.tuple #[]) ∧ ∃ g, SF w w' bk n g ∧ Srt key g 0 n ∧ ∀ i, i < n → g i < n := by
  have hp := Lib.hid (pstable_any bk q n cp lc al key f w h hk hid)
  clear h hk hid
  go_enter Try.func18, Try.ntmps18
  go_wp2_with (go_at_call 24; refine hp.out.mono ?_; rintro en w2 ⟨rfl, g, h1, h2, h3⟩)
  go_end0
  exact ⟨rfl, g, h1, h2, h3⟩
end Go.Proofs.Ytdpnichgdfpmgaa
