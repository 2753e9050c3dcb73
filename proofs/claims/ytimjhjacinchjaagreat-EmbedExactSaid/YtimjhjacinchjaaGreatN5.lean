/- Walks of the references' whole numbers: differences. -/
import Derived.Test.YtimjhjacinchjaaGreatN4
import Derived.WalkMore
import Derived.Deep.RegionHeld3
import Derived.Deep.RegionWith
import Derived.BigRegion
import Derived.Deep.Cut
import Derived.Deep.CutBlock
import Derived.Deep.CutRange
set_option linter.unusedVariables false
set_option linter.unusedSimpArgs false
namespace Go.Proofs.YtimjhjacinchjaaGreat
open Go.RowKit Go.Rt

theorem less_step {B k U V dx dy b b' r : Nat} {L : List Int} (h : valB B L + V = U + B ^ k * b) (hl : L.length = k) (he : dx + b' * B = r + dy + b) : valB B (L ++ [(r : Int)]) + (V + B ^ k * dy) = (U + B ^ k * dx) + B ^ (k + 1) * b' := by
  have e : B ^ k * (dx + b' * B) = B ^ k * (r + dy + b) := by rw [he]
  rw [Nat.mul_add, Nat.mul_add, Nat.mul_add, Nat.mul_comm b' B, ← Nat.mul_assoc] at e
  rw [valB_snoc B L _ k hl, Int.toNat_natCast, Nat.pow_succ]
  omega
theorem less_end {B k m n b : Nat} {L : List Int} (hB : 2 ≤ B) (hr : Rng B L) (hl : L.length = k) (h : valB B L + n = m + B ^ k * b) (hmn : n ≤ m) : valB B L = m - n := by
  have h1 := valB_lt hB hr
  rw [hl] at h1
  by_cases hb : b = 0
  · subst hb
    omega
  · have : B ^ k * 1 ≤ B ^ k * b := Nat.mul_le_mul (Nat.le_refl _) (by omega)
    omega

set_option maxHeartbeats 8000000 in
set_option maxRecDepth 100000 in
theorem nlessF_any (a b : Option Addr) (c d m n : Nat) (w : World) (h : NAt w w.heap.size a c m) (h' : NAt w w.heap.size b d n) (hm : (dig 18446744073709551616 m).length ≤ 1000000) (hn : (dig 18446744073709551616 n).length ≤ 1000000) (hnm : n ≤ m) :
    Calls Tryz.prog 76 #[.slice a (dig 18446744073709551616 m).length c, .slice b (dig 18446744073709551616 n).length d] w (RetNF w (m - n)) := by
  have h1 := fun w' (hb : Below w.heap.size w w') => Lib.hid (halves_any a c m w' (h.next hb) (by omega))
  have h2 := fun w' (hb : Below w.heap.size w w') => Lib.hid (halves_any b d n w' (h'.next hb) (by omega))
  clear h h'
  have k1 := dig32_len m
  have k2 := dig32_len n
  go_enter Tryz.func76, Tryz.ntmps76
  go_upto_region 3 with (first | (go_at_call_of 71 a; refine (h1 w (Below.refl _ _)).out.mono ?_; rintro e w1 ⟨ax, cx, rfl, hX, hb1⟩; have HX1 := Lib.hid hX; have HB1 := Lib.hid hb1; clear hX hb1) | (go_at_call_of 71 b; refine (h2 _ HB1.out).out.mono ?_; rintro e w2 ⟨ay, cy, rfl, hY, hb2⟩; have HY2 := Lib.hid hY; have HB2 := Lib.hid hb2; clear hY hb2))
  have HX2 := Lib.hid (HX1.out.next HB2.out)
  have HBW := Lib.hid (HB1.out.trans (HB2.out.mono HB1.out.size))
  clear HX1 HB1 HB2
  obtain ⟨X, hXe⟩ : ∃ X, dig 4294967296 m = X := ⟨_, rfl⟩
  obtain ⟨Y, hYe⟩ : ∃ Y, dig 4294967296 n = Y := ⟨_, rfl⟩
  have rX : Rng 4294967296 X := by rw [← hXe]; exact dig_rng (by decide) _
  have rY : Rng 4294967296 Y := by rw [← hYe]; exact dig_rng (by decide) _
  have vX : valB 4294967296 X = m := by rw [← hXe]; exact val_dig (by decide) _
  have vY : valB 4294967296 Y = n := by rw [← hYe]; exact val_dig (by decide) _
  have HcX := Lib.hid HX2.out.li
  have HcY := Lib.hid HY2.out.li
  rw [hXe] at HcX
  rw [hYe] at HcY
  rw [hXe] at k1 ⊢
  rw [hYe] at k2 ⊢
  have RX := Lib.hid rX
  have RY := Lib.hid rY
  have VX := Lib.hid vX
  have VY := Lib.hid vY
  have HXE := Lib.hid hXe
  have HYE := Lib.hid hYe
  clear hXe hYe rX rY vX vY HX2 HY2 h1 h2
  have hlX : X.length ≤ 2000000 := by omega
  have hlY : Y.length ≤ 2000000 := by omega
  clear k1 k2
  have hYX : Y.length ≤ X.length := by have h := dig_len_mono (B := 4294967296) (by decide) hnm; rw [HXE.out, HYE.out] at h; exact h
  go_wp2_with fail
  go_loopw [7, 8, 9] (fun v c i wr => ∃ (k b : Nat) (ci : Int) (L : List Int), k ≤ X.length ∧ c = .int .i64 ci ∧ ci = -(b : Int) ∧ i = .int .i64 k ∧ b ≤ 1 ∧ Hid (Rng 4294967296 L) ∧ Hid (valB 4294967296 L + valB 4294967296 (Y.take k) = valB 4294967296 (X.take k) + 4294967296 ^ k * b) ∧ wr.ownsRow w2.heap.size 109 1 v k (L.map (Value.int .u32)) ∧ Below w2.heap.size w2 wr) (fun _ _ i _ => X.length - (intOf i).toNat)
  case atStart => exact ⟨0, 0, 0, [], Nat.zero_le _, rfl, rfl, rfl, Nat.zero_le _, Lib.hid (fun x hx => by cases hx), Lib.hid rfl, World.ownsRow_nil _ _ _ _, Below.refl _ _⟩
  case round =>
    obtain ⟨k, b0, C, L, hk, rfl, hCb, rfl, hC, HR, HV, hown, hbel⟩ := hrel
    obtain ⟨wi, rfl⟩ : ∃ wi : World, wi = wr := ⟨_, rfl⟩
    have HO := Lib.hid hown
    have HB := Lib.hid hbel
    have hsz := hbel.size
    have HLL := Lib.hid (own_len_k hown)
    clear hown hbel
    by_cases hx : k < X.length
    · skip
      have dX := RX.out.getD (by decide) k
      have dY := RY.out.getD (by decide) k
      obtain ⟨dx, edx⟩ : ∃ d : Nat, X[k]?.getD 0 = (d : Int) := ⟨(X[k]?.getD 0).toNat, by omega⟩
      obtain ⟨dy, edy⟩ : ∃ d : Nat, Y[k]?.getD 0 = (d : Int) := ⟨(Y[k]?.getD 0).toNat, by omega⟩
      rw [edx] at dX
      rw [edy] at dY
      obtain ⟨r, hr⟩ : ∃ r : Nat, (C + dx - dy) % 4294967296 = (r : Int) := ⟨((C + dx - dy) % 4294967296).toNat, by omega⟩
      obtain ⟨b1, hb1⟩ : ∃ b1 : Nat, (C + dx - dy) / 4294967296 = -(b1 : Int) := ⟨(-((C + dx - dy) / 4294967296)).toNat, by omega⟩
      have hst := less_step (dx := dx) (dy := dy) (r := r) (b' := b1) HV.out HLL.out (by omega)
      have t1 := valB_take_succ' 4294967296 X k
      have t2 := valB_take_succ' 4294967296 Y k
      rw [edx, Int.toNat_natCast] at t1
      rw [edy, Int.toNat_natCast] at t2
      rw [← t1, ← t2] at hst
      have hR2 : Rng 4294967296 (L ++ [(r : Int)]) := HR.out.append (by intro x hx; simp only [List.mem_singleton] at hx; subst hx; omega)
      have hB2 : b1 ≤ 1 := by omega
      have HV2 := Lib.hid hst
      have HR2 := Lib.hid hR2
      clear hst t1 t2 hR2
      have HRR := Lib.hid hr
      have HQQ := Lib.hid hb1
      have HCB := Lib.hid hCb
      have hC0 : -1 ≤ C ∧ C ≤ 0 := by omega
      clear hr hb1 hCb
      obtain ⟨bX, oX, ex, hlb, cX⟩ := HcX.out.cell k hx
      rw [edx] at cX
      replace cX := (HB.out.cell (p := ⟨bX, oX + k, none⟩) hlb).trans cX
      subst ex
      have ix : (k : Int) < (X.length : Int) := by omega
      have i0 : (0 : Int) ≤ (k : Int) := by omega
      obtain ⟨s1, hs1, eS1⟩ : ∃ s1 : Int, Hid (s1 = C + dx) ∧ ∀ [Inhabited Unit], C + (dx : Int) = s1 := ⟨_, Lib.hid rfl, fun {_} => rfl⟩
      have z1 : -1 ≤ s1 ∧ s1 ≤ 4294967295 := by have := hs1.out; omega
      by_cases hy : k < Y.length
      · skip
        obtain ⟨bY, oY, ey, hlb2, cY⟩ := HcY.out.cell k hy
        rw [edy] at cY
        replace cY := (HB.out.cell (p := ⟨bY, oY + k, none⟩) hlb2).trans cY
        subst ey
        have iy : (k : Int) < (Y.length : Int) := by omega
        obtain ⟨s2, hs2, eS2⟩ : ∃ s2 : Int, Hid (s2 = s1 - dy) ∧ ∀ [Inhabited Unit], s1 - (dy : Int) = s2 := ⟨_, Lib.hid rfl, fun {_} => rfl⟩
        have z2 : -4294967296 ≤ s2 ∧ s2 ≤ 4294967295 := by have := hs2.out; omega
        have hs := hs2.out
        have hsx := hs1.out
        have hr := HRR.out
        have hq := HQQ.out
        obtain ⟨su, hsu, eU⟩ : ∃ su : Int, Hid (su = s2 % 18446744073709551616) ∧ ∀ [Inhabited Unit], IntKind.u64.wrap s2 = su := ⟨_, Lib.hid rfl, fun {_} => by simp [IntKind.wrap, IntKind.bits, IntKind.signed]⟩
        have zu : 0 ≤ su ∧ su < 18446744073709551616 := by have := hsu.out; omega
        have eM : ∀ [Inhabited Unit], IntKind.u32.wrap su = (r : Int) := by intro _; rw [IntKind.wrap_u32]; have := hsu.out; omega
        have eD : ∀ [Inhabited Unit], s2 / 4294967296 = -(b1 : Int) := by intro _; omega
        have eF : ∀ [Inhabited Unit], s2.fdiv 4294967296 = -(b1 : Int) := by intro _; rw [Int.fdiv_eq_ediv_of_nonneg _ (by decide)]; omega
        have eF2 : ∀ [Inhabited Unit], s2.fdiv (2 ^ min (Int.toNat 32) IntKind.i64.bits) = -(b1 : Int) := by intro _; rw [show (2 : Int) ^ min (Int.toNat 32) IntKind.i64.bits = 4294967296 from rfl, Int.fdiv_eq_ediv_of_nonneg _ (by decide)]; omega
        clear hr hq hsx edx edy hx hy hs
        as_aux_lemma =>
          go_upto_region 11 with fail
          go_wp2_with (at_builtin; (refine wpl_append1b 107 109 .u32 4 (by decide) infoU32n Tryz.underlying107 w2.heap.size _ k L (r : Int) _ _ _ rfl rfl rfl HO.out rfl (by omega) hsz ?_); intro v' w3 hown1 hbel1 _; have HO1 := Lib.hid hown1; have HB1 := Lib.hid (hbel1 _ _ (Nat.le_refl _) HB.out); clear hown1 hbel1)
          go_wp2
          go_roundw
          case rel => exact ⟨k + 1, b1, _, _, by omega, rfl, by omega, by go_num, hB2, HR2, HV2, HO1.out, HB1.out⟩
          case measure => simp [intOf]; omega
      · skip
        have iy : ¬ (k : Int) < (Y.length : Int) := by omega
        obtain rfl : dy = 0 := by rw [List.getElem?_eq_none (by omega)] at edy; simp at edy; omega
        have hsx := hs1.out
        have hr := HRR.out
        have hq := HQQ.out
        obtain ⟨su, hsu, eU⟩ : ∃ su : Int, Hid (su = s1 % 18446744073709551616) ∧ ∀ [Inhabited Unit], IntKind.u64.wrap s1 = su := ⟨_, Lib.hid rfl, fun {_} => by simp [IntKind.wrap, IntKind.bits, IntKind.signed]⟩
        have zu : 0 ≤ su ∧ su < 18446744073709551616 := by have := hsu.out; omega
        have eM : ∀ [Inhabited Unit], IntKind.u32.wrap su = (r : Int) := by intro _; rw [IntKind.wrap_u32]; have := hsu.out; omega
        have eD : ∀ [Inhabited Unit], s1 / 4294967296 = -(b1 : Int) := by intro _; omega
        have eF : ∀ [Inhabited Unit], s1.fdiv 4294967296 = -(b1 : Int) := by intro _; rw [Int.fdiv_eq_ediv_of_nonneg _ (by decide)]; omega
        have eF2 : ∀ [Inhabited Unit], s1.fdiv (2 ^ min (Int.toNat 32) IntKind.i64.bits) = -(b1 : Int) := by intro _; rw [show (2 : Int) ^ min (Int.toNat 32) IntKind.i64.bits = 4294967296 from rfl, Int.fdiv_eq_ediv_of_nonneg _ (by decide)]; omega
        clear hr hq hsx edx edy hx hy
        as_aux_lemma =>
          go_upto_region 11 with fail
          go_wp2_with (at_builtin; (refine wpl_append1b 107 109 .u32 4 (by decide) infoU32n Tryz.underlying107 w2.heap.size _ k L (r : Int) _ _ _ rfl rfl rfl HO.out rfl (by omega) hsz ?_); intro v' w3 hown1 hbel1 _; have HO1 := Lib.hid hown1; have HB1 := Lib.hid (hbel1 _ _ (Nat.le_refl _) HB.out); clear hown1 hbel1)
          go_wp2
          go_roundw
          case rel => exact ⟨k + 1, b1, _, _, by omega, rfl, by omega, by go_num, hB2, HR2, HV2, HO1.out, HB1.out⟩
          case measure => simp [intOf]; omega
    · have ix : ¬ (k : Int) < (X.length : Int) := by omega
      have hv := HV.out
      rw [List.take_of_length_le (by omega), List.take_of_length_le (by omega), VX.out, VY.out] at hv
      have hv2 := less_end (by decide) HR.out HLL.out hv hnm
      have HV3 := Lib.hid hv2
      have HR3 := HR
      have hll := HLL.out
      have HLN := HLL
      clear hv hv2 hx hll hnm
      (have hown1 := HO.out; obtain ⟨a3, c3, rfl, _⟩ := own_shape hown1; obtain ⟨a4, c4, he, hI⟩ := own_ints hown1 (fun x hx => by have := HR3.out x hx; exact wf_u32_iff.2 ⟨by omega, by omega⟩); injection he with e1 e2 e3; clear e2; subst e1; subst e3; have HCP := Lib.hid (own_cap1 hown1); have HCQ : Hid (L.length ≤ c3 ∧ c3 ≤ 9223372036854775807) := Lib.hid (by rw [HLN.out]; exact HCP.out); have HI := Lib.hid hI; have HC := Lib.hid (cut_any a3 c3 wi.heap.size _ wi hI HCQ.out.1 HCQ.out.2); rw [HV3.out, HLN.out] at HC; have HD := Lib.hid (dig_of_ints HI.out HCQ.out); rw [HV3.out] at HD; have HW := Lib.hid (nwholeF_any a3 c3 (m - n) wi HD.out (by have e := dig_is_take (B := 4294967296) (by decide) HR3.out; rw [HV3.out] at e; have e2 := congrArg List.length e; rw [List.length_take, HLN.out] at e2; omega)); clear hown1 hI HD HI)
      go_wp2_with (first | (go_at_call 78; refine HC.out.mono ?_; rintro e w4 ⟨rfl, rfl⟩) | (go_at_call 73; refine HW.out.mono ?_; rintro e w5 ⟨a5, c5, rfl, hN, hb5, hf5⟩; have HN := Lib.hid hN; have HF5 := Lib.hid hf5; clear hf5; have HB5 := Lib.hid hb5; clear hN hb5))
      go_ret
      exact ⟨a5, c5, rfl, HN.out, (HBW.out.trans (HB.out.mono HBW.out.size)).trans (HB5.out.mono (Nat.le_trans HBW.out.size HB.out.size)), HF5.out.mono (Nat.le_trans HBW.out.size HB.out.size)⟩
theorem nless_any (a b : Option Addr) (c d m n : Nat) (w : World) (h : NAt w w.heap.size a c m) (h' : NAt w w.heap.size b d n) (hm : (dig 18446744073709551616 m).length ≤ 1000000) (hn : (dig 18446744073709551616 n).length ≤ 1000000) (hnm : n ≤ m) :
    Calls Tryz.prog 76 #[.slice a (dig 18446744073709551616 m).length c, .slice b (dig 18446744073709551616 n).length d] w (RetN w (m - n)) := (nlessF_any a b c d m n w h h' hm hn hnm).mono fun _ _ => RetNF.ret
end Go.Proofs.YtimjhjacinchjaaGreat
