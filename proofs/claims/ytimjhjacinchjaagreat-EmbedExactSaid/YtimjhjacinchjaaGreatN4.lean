/- Walks of the references' whole numbers: sums. -/
import Derived.Test.YtimjhjacinchjaaGreatN3
import Derived.WalkMore
import Derived.Deep.RegionHeld3
import Derived.Deep.RegionWith
import Derived.BigRegion
import Derived.Deep.Cut
import Derived.Deep.CutBlock
import Derived.Deep.CutRange
set_option linter.unusedVariables false
set_option linter.unusedSimpArgs false
namespace Go.Proofs.YtimjhjacinchjaaGreat
open Go.RowKit Go.Rt

theorem valB_take_succ' (B : Nat) (xs : List Int) (k : Nat) : valB B (xs.take (k + 1)) = valB B (xs.take k) + B ^ k * (xs[k]?.getD 0).toNat := by
  by_cases h : k < xs.length
  · exact valB_take_succ B xs k h
  · rw [List.take_of_length_le (by omega), List.take_of_length_le (by omega), List.getElem?_eq_none (by omega)]
    simp
theorem valB_snoc (B : Nat) (xs : List Int) (d : Int) (k : Nat) (hl : xs.length = k) : valB B (xs ++ [d]) = valB B xs + B ^ k * d.toNat := by
  rw [valB_append, hl]
  simp [valB]
theorem plus_step {B k U V dx dy : Nat} {L : List Int} {C : Nat} (h : valB B L + B ^ k * C = U + V) (hl : L.length = k) : valB B (L ++ [(((C + dx + dy) % B : Nat) : Int)]) + B ^ (k + 1) * ((C + dx + dy) / B) = (U + B ^ k * dx) + (V + B ^ k * dy) := by
  rw [valB_snoc B L _ k hl, Int.toNat_natCast, Nat.pow_succ, Nat.mul_assoc, Nat.add_assoc, ← Nat.mul_add, Nat.mod_add_div, Nat.mul_add, Nat.mul_add]
  omega
theorem dig32_len (m : Nat) : (dig 4294967296 m).length ≤ 2 * (dig 18446744073709551616 m).length := by
  refine dig_len_le (by decide) _ m ?_
  have h := lt_dig_len (B := 18446744073709551616) (by decide) m
  rw [Nat.pow_mul]
  exact h
theorem own_len_k {k : IntKind} {w : World} {base : Nat} {e : TypeId} {v : Value} {n : Nat} {xs : List Int} (h : w.ownsRow base e 1 v n (xs.map (Value.int k))) : xs.length = n := by
  have := h.1
  simpa using this

set_option maxHeartbeats 8000000 in
set_option maxRecDepth 100000 in
theorem nplus_any (a b : Option Addr) (c d m n : Nat) (w : World) (h : NAt w w.heap.size a c m) (h' : NAt w w.heap.size b d n) (hm : (dig 18446744073709551616 m).length ≤ 1000000) (hn : (dig 18446744073709551616 n).length ≤ 1000000) :
    Calls Tryz.prog 84 #[.slice a (dig 18446744073709551616 m).length c, .slice b (dig 18446744073709551616 n).length d] w (RetN w (m + n)) := by
  have h1 := fun w' (hb : Below w.heap.size w w') => Lib.hid (halves_any a c m w' (h.next hb) (by omega))
  have h2 := fun w' (hb : Below w.heap.size w w') => Lib.hid (halves_any b d n w' (h'.next hb) (by omega))
  clear h h'
  have k1 := dig32_len m
  have k2 := dig32_len n
  go_enter Tryz.func84, Tryz.ntmps84
  go_upto_region 3 with (first | (go_at_call_of 71 a; refine (h1 w (Below.refl _ _)).out.mono ?_; rintro e w1 ⟨ax, cx, rfl, hX, hb1⟩; have HX1 := Lib.hid hX; have HB1 := Lib.hid hb1; clear hX hb1) | (go_at_call_of 71 b; refine (h2 _ HB1.out).out.mono ?_; rintro e w2 ⟨ay, cy, rfl, hY, hb2⟩; have HY2 := Lib.hid hY; have HB2 := Lib.hid hb2; clear hY hb2))
  have HX2 := Lib.hid (HX1.out.next HB2.out)
  have HBW := Lib.hid (HB1.out.trans (HB2.out.mono HB1.out.size))
  clear HX1 HB1 HB2
  obtain ⟨X, hXe⟩ : ∃ X, dig 4294967296 m = X := ⟨_, rfl⟩
  obtain ⟨Y, hYe⟩ : ∃ Y, dig 4294967296 n = Y := ⟨_, rfl⟩
  have rX : Rng 4294967296 X := by rw [← hXe]; exact dig_rng (by decide) _
  have rY : Rng 4294967296 Y := by rw [← hYe]; exact dig_rng (by decide) _
  have vX : valB 4294967296 X = m := by rw [← hXe]; exact val_dig (by decide) _
  have vY : valB 4294967296 Y = n := by rw [← hYe]; exact val_dig (by decide) _
  have HcX := Lib.hid HX2.out.li
  have HcY := Lib.hid HY2.out.li
  rw [hXe] at HcX
  rw [hYe] at HcY
  rw [hXe] at k1 ⊢
  rw [hYe] at k2 ⊢
  have RX := Lib.hid rX
  have RY := Lib.hid rY
  have VX := Lib.hid vX
  have VY := Lib.hid vY
  clear hXe hYe rX rY vX vY HX2 HY2 h1 h2
  have hlX : X.length ≤ 2000000 := by omega
  have hlY : Y.length ≤ 2000000 := by omega
  clear k1 k2
  go_wp2_with fail
  go_loopw [7, 8, 9] (fun v c i wr => ∃ (k C : Nat) (L : List Int), k ≤ 2000000 ∧ (k ≤ X.length ∨ k ≤ Y.length) ∧ c = .int .u64 C ∧ i = .int .i64 k ∧ C ≤ 1 ∧ Hid (Rng 4294967296 L) ∧ Hid (valB 4294967296 L + 4294967296 ^ k * C = valB 4294967296 (X.take k) + valB 4294967296 (Y.take k)) ∧ wr.ownsRow w2.heap.size 109 1 v k (L.map (Value.int .u32)) ∧ Below w2.heap.size w2 wr) (fun _ _ i _ => 2000001 - (intOf i).toNat)
  case atStart => exact ⟨0, 0, [], by omega, .inl (Nat.zero_le _), rfl, rfl, Nat.zero_le _, Lib.hid (fun x hx => by cases hx), Lib.hid rfl, World.ownsRow_nil _ _ _ _, Below.refl _ _⟩
  case round =>
    obtain ⟨k, C, L, hk, hkm, rfl, rfl, hC, HR, HV, hown, hbel⟩ := hrel
    obtain ⟨wi, rfl⟩ : ∃ wi : World, wi = wr := ⟨_, rfl⟩
    have HO := Lib.hid hown
    have HB := Lib.hid hbel
    have hsz := hbel.size
    have HLL := Lib.hid (own_len_k hown)
    clear hown hbel
    have dX := RX.out.getD (by decide) k
    have dY := RY.out.getD (by decide) k
    obtain ⟨dx, edx⟩ : ∃ d : Nat, X[k]?.getD 0 = (d : Int) := ⟨(X[k]?.getD 0).toNat, by omega⟩
    obtain ⟨dy, edy⟩ : ∃ d : Nat, Y[k]?.getD 0 = (d : Int) := ⟨(Y[k]?.getD 0).toNat, by omega⟩
    have hst := plus_step (dx := dx) (dy := dy) HV.out HLL.out
    have t1 := valB_take_succ' 4294967296 X k
    have t2 := valB_take_succ' 4294967296 Y k
    rw [edx, Int.toNat_natCast] at t1
    rw [edy, Int.toNat_natCast] at t2
    rw [← t1, ← t2] at hst
    obtain ⟨r, hr⟩ : ∃ r : Nat, (C + dx + dy) % 4294967296 = r := ⟨_, rfl⟩
    obtain ⟨q, hq⟩ : ∃ q : Nat, (C + dx + dy) / 4294967296 = q := ⟨_, rfl⟩
    rw [hr, hq] at hst
    have hR2 : Rng 4294967296 (L ++ [(r : Int)]) := HR.out.append (by intro x hx; simp only [List.mem_singleton] at hx; subst hx; omega)
    rw [edx] at dX
    rw [edy] at dY
    have HV2 := Lib.hid hst
    have HR2 := Lib.hid hR2
    clear hst t1 t2 hR2
    have hC2 : q ≤ 1 := by omega
    have HRR := Lib.hid hr
    have HQQ := Lib.hid hq
    clear hr hq
    by_cases hx : k < X.length
    · by_cases hy : k < Y.length
      · skip
        obtain ⟨b1, o1, ex, hlb, cX⟩ := HcX.out.cell k hx
        rw [edx] at cX
        replace cX := (HB.out.cell (p := ⟨b1, o1 + k, none⟩) hlb).trans cX
        subst ex
        have ix : (k : Int) < (X.length : Int) := by omega
        obtain ⟨b2, o2, ey, hlb2, cY⟩ := HcY.out.cell k hy
        rw [edy] at cY
        replace cY := (HB.out.cell (p := ⟨b2, o2 + k, none⟩) hlb2).trans cY
        subst ey
        have iy : (k : Int) < (Y.length : Int) := by omega
        obtain ⟨s1, hs1⟩ : ∃ s1 : Nat, s1 = C + dx := ⟨_, rfl⟩
        have eS1 : ∀ [Inhabited Unit], (C : Int) + (dx : Int) = (s1 : Int) := by intro _; omega
        have b1 : s1 ≤ 4294967296 := by omega
        obtain ⟨s2, hs2⟩ : ∃ s2 : Nat, s2 = s1 + dy := ⟨_, rfl⟩
        have eS2 : ∀ [Inhabited Unit], (s1 : Int) + (dy : Int) = (s2 : Int) := by intro _; omega
        have b2 : s2 ≤ 8589934592 := by omega
        have hr := HRR.out
        have hq := HQQ.out
        have eM : ∀ [Inhabited Unit], IntKind.u32.wrap (s2 : Int) = (r : Int) := by intro _; rw [IntKind.wrap_u32]; omega
        have eD : ∀ [Inhabited Unit], (s2 : Int) / 4294967296 = (q : Int) := by intro _; omega
        have g0 : (0 : Int) ≤ (s2 : Int) := by omega
        clear hr hq edx edy hx hy hs1 hs2
        have i0 : (0 : Int) ≤ (k : Int) := by omega
        as_aux_lemma =>
          go_upto_region 12 with fail
          go_wp2_with (at_builtin; (refine wpl_append1b 107 109 .u32 4 (by decide) infoU32n Tryz.underlying107 w2.heap.size _ k L (r : Int) _ _ _ rfl rfl rfl HO.out rfl (by omega) hsz ?_); intro v' w3 hown1 hbel1 _; have HO1 := Lib.hid hown1; have HB1 := Lib.hid (hbel1 _ _ (Nat.le_refl _) HB.out); clear hown1 hbel1)
          go_wp2
          go_roundw
          case rel => exact ⟨k + 1, q, _, by omega, by omega, rfl, by go_num, hC2, HR2, HV2, HO1.out, HB1.out⟩
          case measure => simp [intOf]; omega
      · skip
        obtain ⟨b1, o1, ex, hlb, cX⟩ := HcX.out.cell k hx
        rw [edx] at cX
        replace cX := (HB.out.cell (p := ⟨b1, o1 + k, none⟩) hlb).trans cX
        subst ex
        have ix : (k : Int) < (X.length : Int) := by omega
        have iy : ¬ (k : Int) < (Y.length : Int) := by omega
        obtain rfl : dy = 0 := by rw [List.getElem?_eq_none (by omega)] at edy; simp at edy; omega
        obtain ⟨s1, hs1⟩ : ∃ s1 : Nat, s1 = C + dx := ⟨_, rfl⟩
        have eS1 : ∀ [Inhabited Unit], (C : Int) + (dx : Int) = (s1 : Int) := by intro _; omega
        have b1 : s1 ≤ 4294967296 := by omega
        have hr := HRR.out
        have hq := HQQ.out
        have eM : ∀ [Inhabited Unit], IntKind.u32.wrap (s1 : Int) = (r : Int) := by intro _; rw [IntKind.wrap_u32]; omega
        have eD : ∀ [Inhabited Unit], (s1 : Int) / 4294967296 = (q : Int) := by intro _; omega
        have g0 : (0 : Int) ≤ (s1 : Int) := by omega
        clear hr hq edx edy hx hy hs1 
        have i0 : (0 : Int) ≤ (k : Int) := by omega
        as_aux_lemma =>
          go_upto_region 12 with fail
          go_wp2_with (at_builtin; (refine wpl_append1b 107 109 .u32 4 (by decide) infoU32n Tryz.underlying107 w2.heap.size _ k L (r : Int) _ _ _ rfl rfl rfl HO.out rfl (by omega) hsz ?_); intro v' w3 hown1 hbel1 _; have HO1 := Lib.hid hown1; have HB1 := Lib.hid (hbel1 _ _ (Nat.le_refl _) HB.out); clear hown1 hbel1)
          go_wp2
          go_roundw
          case rel => exact ⟨k + 1, q, _, by omega, by omega, rfl, by go_num, hC2, HR2, HV2, HO1.out, HB1.out⟩
          case measure => simp [intOf]; omega
    · by_cases hy : k < Y.length
      · skip
        have ix : ¬ (k : Int) < (X.length : Int) := by omega
        obtain rfl : dx = 0 := by rw [List.getElem?_eq_none (by omega)] at edx; simp at edx; omega
        obtain ⟨b2, o2, ey, hlb2, cY⟩ := HcY.out.cell k hy
        rw [edy] at cY
        replace cY := (HB.out.cell (p := ⟨b2, o2 + k, none⟩) hlb2).trans cY
        subst ey
        have iy : (k : Int) < (Y.length : Int) := by omega
        obtain ⟨s2, hs2⟩ : ∃ s2 : Nat, s2 = C + dy := ⟨_, rfl⟩
        have eS2 : ∀ [Inhabited Unit], (C : Int) + (dy : Int) = (s2 : Int) := by intro _; omega
        have b2 : s2 ≤ 8589934592 := by omega
        have hr := HRR.out
        have hq := HQQ.out
        have eM : ∀ [Inhabited Unit], IntKind.u32.wrap (s2 : Int) = (r : Int) := by intro _; rw [IntKind.wrap_u32]; omega
        have eD : ∀ [Inhabited Unit], (s2 : Int) / 4294967296 = (q : Int) := by intro _; omega
        have g0 : (0 : Int) ≤ (s2 : Int) := by omega
        clear hr hq edx edy hx hy hs2
        have i0 : (0 : Int) ≤ (k : Int) := by omega
        as_aux_lemma =>
          go_upto_region 12 with fail
          go_wp2_with (at_builtin; (refine wpl_append1b 107 109 .u32 4 (by decide) infoU32n Tryz.underlying107 w2.heap.size _ k L (r : Int) _ _ _ rfl rfl rfl HO.out rfl (by omega) hsz ?_); intro v' w3 hown1 hbel1 _; have HO1 := Lib.hid hown1; have HB1 := Lib.hid (hbel1 _ _ (Nat.le_refl _) HB.out); clear hown1 hbel1)
          go_wp2
          go_roundw
          case rel => exact ⟨k + 1, q, _, by omega, by omega, rfl, by go_num, hC2, HR2, HV2, HO1.out, HB1.out⟩
          case measure => simp [intOf]; omega
      · have ix : ¬ (k : Int) < (X.length : Int) := by omega
        have iy : ¬ (k : Int) < (Y.length : Int) := by omega
        have hv := HV.out
        rw [List.take_of_length_le (by omega), List.take_of_length_le (by omega), VX.out, VY.out] at hv
        have hv2 : valB 4294967296 (L ++ [(C : Int)]) = m + n := by rw [valB_snoc _ _ _ k HLL.out, Int.toNat_natCast]; exact hv
        have HV3 := Lib.hid hv2
        have HR3 := Lib.hid (show Rng 4294967296 (L ++ [(C : Int)]) from HR.out.append (by intro x hx; simp only [List.mem_singleton] at hx; subst hx; omega))
        have eM : IntKind.u32.wrap (C : Int) = (C : Int) := by rw [IntKind.wrap_u32]; omega
        have hll : (L ++ [(C : Int)]).length = k + 1 := by rw [List.length_append, HLL.out]; rfl
        have HLN := Lib.hid hll
        clear hv hv2 HRR HQQ HV2 HR2 edx edy hC2 hll hx hy
        go_wp2_with (first | (at_builtin; (refine wpl_append1b 107 109 .u32 4 (by decide) infoU32n Tryz.underlying107 w2.heap.size _ k L (C : Int) _ _ _ rfl rfl rfl HO.out rfl (by omega) hsz ?_); intro v' w3 hown1 hbel1 _; have HB1 := Lib.hid (hbel1 _ _ (Nat.le_refl _) HB.out); obtain ⟨a3, c3, rfl, _⟩ := own_shape hown1; obtain ⟨a4, c4, he, hI⟩ := own_ints hown1 (fun x hx => by have := HR3.out x hx; exact wf_u32_iff.2 ⟨by omega, by omega⟩); injection he with e1 e2 e3; clear e2; subst e1; subst e3; have HCP := Lib.hid (own_cap1 hown1); have HCQ : Hid ((L ++ [(C : Int)]).length ≤ c3 ∧ c3 ≤ 9223372036854775807) := Lib.hid (by rw [HLN.out]; exact HCP.out); have HI := Lib.hid hI; have HC := Lib.hid (cut_any a3 c3 w3.heap.size _ w3 hI HCQ.out.1 HCQ.out.2); rw [HV3.out, HLN.out] at HC; have HD := Lib.hid (dig_of_ints HI.out HCQ.out); rw [HV3.out] at HD; have HW := Lib.hid (nwhole_any a3 c3 (m + n) w3 HD.out (by have := HD.out.c1; have e := dig_is_take (B := 4294967296) (by decide) HR3.out; rw [HV3.out] at e; have e2 := congrArg List.length e; rw [List.length_take, HLN.out] at e2; omega)); clear hown1 hbel1 hI HD HI) | (go_at_call 78; refine HC.out.mono ?_; rintro e w4 ⟨rfl, rfl⟩) | (go_at_call 73; refine HW.out.mono ?_; rintro e w5 ⟨a5, c5, rfl, hN, hb5⟩; have HN := Lib.hid hN; have HB5 := Lib.hid hb5; clear hN hb5))
        go_ret
        exact ⟨a5, c5, rfl, HN.out, (HBW.out.trans (HB1.out.mono HBW.out.size)).trans (HB5.out.mono (Nat.le_trans HBW.out.size HB1.out.size))⟩
end Go.Proofs.YtimjhjacinchjaaGreat
