/- Walks of the references' whole numbers: by a power of 2, rounded down. -/
import Derived.Test.YtddhhfhammmaaaaGreatN9
import Derived.BigQuiet
import Derived.WalkMore
import Derived.Deep.RegionHeld3
import Derived.Deep.RegionWith
import Derived.BigRegion
import Derived.Deep.Cut
import Derived.Deep.CutBlock
import Derived.Deep.CutRange
set_option linter.unusedVariables false
set_option linter.unusedSimpArgs false
namespace Go.Proofs.YtddhhfhammmaaaaGreat
open Go.RowKit Go.Rt

theorem down_step {h x h1 s e : Nat} (he : h = x + 18446744073709551616 * h1) (hs : s + e = 64) : h / 2 ^ s = (x / 2 ^ s + h1 % 2 ^ s * 2 ^ e) + 18446744073709551616 * (h1 / 2 ^ s) := by
  have hp : 0 < 2 ^ s := Nat.pow_pos (by decide)
  have hd : 2 ^ s * 2 ^ e = 18446744073709551616 := by rw [← Nat.pow_add, hs]
  have e1 : h = x + 2 ^ s * (h1 % 2 ^ s * 2 ^ e + 18446744073709551616 * (h1 / 2 ^ s)) := by
    rw [he, Nat.mul_add]
    have a1 : 2 ^ s * (h1 % 2 ^ s * 2 ^ e) = 18446744073709551616 * (h1 % 2 ^ s) := by rw [Nat.mul_left_comm, hd, Nat.mul_comm]
    have a2 : 2 ^ s * (18446744073709551616 * (h1 / 2 ^ s)) = 18446744073709551616 * (2 ^ s * (h1 / 2 ^ s)) := Nat.mul_left_comm _ _ _
    rw [a1, a2, ← Nat.mul_add, Nat.mod_add_div]
  rw [e1, Nat.add_mul_div_left _ _ hp, Nat.add_assoc]
theorem down_digit {x h1 s e : Nat} (hx : x < 18446744073709551616) (hs : s + e = 64) : x / 2 ^ s < 2 ^ e ∧ x / 2 ^ s + h1 % 2 ^ s * 2 ^ e < 18446744073709551616 := by
  have hp : 0 < 2 ^ s := Nat.pow_pos (by decide)
  have hd : 2 ^ s * 2 ^ e = 18446744073709551616 := by rw [← Nat.pow_add, hs]
  have h1' : x / 2 ^ s < 2 ^ e := Nat.div_lt_of_lt_mul (by rw [hd]; exact hx)
  refine ⟨h1', ?_⟩
  have h2 : h1 % 2 ^ s < 2 ^ s := Nat.mod_lt _ hp
  have h3 : (h1 % 2 ^ s + 1) * 2 ^ e ≤ 2 ^ s * 2 ^ e := Nat.mul_le_mul h2 (Nat.le_refl _)
  rw [hd, Nat.add_mul, Nat.one_mul] at h3
  omega
theorem down_high {y r h2 s e : Nat} (hs : s + e = 64) (hy : h2 = y + 18446744073709551616 * r) : y * 2 ^ e % 18446744073709551616 = h2 % 2 ^ s * 2 ^ e := by
  have hd : 2 ^ s * 2 ^ e = 18446744073709551616 := by rw [← Nat.pow_add, hs]
  have h3 : h2 % 2 ^ s = y % 2 ^ s := by
    rw [hy, ← hd, Nat.mul_assoc, Nat.add_mul_mod_self_left]
  rw [h3, ← hd, Nat.mul_mod_mul_right]
theorem drop_val {B : Nat} (X : List Int) (k x : Nat) (h : k < X.length) (hx : X[k]?.getD 0 = (x : Int)) : valB B (X.drop k) = x + B * valB B (X.drop (k + 1)) := by
  rw [List.getElem?_eq_getElem h] at hx
  rw [List.drop_eq_getElem_cons h, valB]
  congr 1
  have : X[k] = (x : Int) := by simpa using hx
  rw [this]
  rfl
theorem val_drop_div {B : Nat} (hB : 2 ≤ B) (X : List Int) (hr : Rng B X) (k : Nat) (hk : k ≤ X.length) : valB B (X.drop k) = valB B X / B ^ k := by
  have h1 := valB_lt hB (hr.take k)
  have hl : (X.take k).length = k := by simp; omega
  rw [hl] at h1
  have h2 : valB B X = valB B (X.take k) + B ^ k * valB B (X.drop k) := by
    conv => lhs; rw [← List.take_append_drop k X, valB_append, hl]
  rw [h2, Nat.add_mul_div_left _ _ (Nat.pow_pos (by omega)), Nat.div_eq_of_lt h1, Nat.zero_add]

set_option maxHeartbeats 4000000 in
set_option maxRecDepth 100000 in
theorem down2F_any (a : Option Addr) (c m n : Nat) (w : World) (h : NAt w w.heap.size a c m) (hm : (dig 18446744073709551616 m).length ≤ 1000000) (hn : n ≤ 60000000) :
    Calls Tryz.prog 87 #[.slice a (dig 18446744073709551616 m).length c, .int .i64 n] w (RetNF w (m / 2 ^ n)) := by
  have HLN := Lib.hid (nlen_any a c m w.heap.size w h hm)
  by_cases hge : blen m ≤ n
  · have hm0 : m / 2 ^ n = 0 := Nat.div_eq_of_lt (Nat.lt_of_lt_of_le (blen_lt m) (Nat.pow_le_pow_right (by decide) hge))
    rw [hm0]
    have e1 : (blen m : Int) ≤ (n : Int) := by omega
    have HN0 := Lib.hid h
    clear hm0 h hge
    generalize blen m = bl at *
    go_enter Tryz.func87, Tryz.ntmps87
    go_wp2_with (go_at_call 86; refine HLN.out.mono ?_; rintro e w1 ⟨rfl, rfl⟩)
    go_ret
    exact ⟨none, 0, rfl, nat_zero _ _, Below.refl _ _, fresh_none _⟩
  · have e1 : ¬ (blen m : Int) ≤ (n : Int) := by omega
    have hm1 : m ≠ 0 := by rintro rfl; exact hge (by rw [blen_zero]; omega)
    obtain ⟨X, hXe⟩ : ∃ X, dig 18446744073709551616 m = X := ⟨_, rfl⟩
    have rX : Rng 18446744073709551616 X := by rw [← hXe]; exact dig_rng (by decide) _
    have vX : valB 18446744073709551616 X = m := by rw [← hXe]; exact val_dig (by decide) _
    have hcx := h.li
    have hmX := hcx.len
    rw [hXe] at hcx hmX HLN ⊢
    rw [hXe] at hm
    obtain ⟨q, s, e, hqs, hs, hq⟩ : ∃ q s e : Nat, n = 64 * q + s ∧ s + e = 64 ∧ s < 64 := ⟨n / 64, n % 64, 64 - n % 64, by omega, by omega, by omega⟩
    have hqX : q ≤ X.length := by
      by_cases hc : q ≤ X.length
      · exact hc
      · exfalso
        have h2 := lt_dig_len (B := 18446744073709551616) (by decide) m
        rw [hXe] at h2
        have h3 := blen_ge hm1
        have h4 : (18446744073709551616 : Nat) ^ X.length = 2 ^ (64 * X.length) := by rw [Nat.pow_mul]
        rw [h4] at h2
        have h5 := Nat.pow_le_pow_right (show 0 < 2 by decide) (show 64 * X.length ≤ blen m - 1 by omega)
        omega
    have a1 : ∀ [Inhabited Unit], Int.tdiv (n : Int) 64 = (q : Int) := by intro _; rw [Int.tdiv_eq_ediv_of_nonneg (by omega)]; omega
    have a2 : ∀ [Inhabited Unit], (n : Int) / 64 = (q : Int) := by intro _; omega
    have a3 : ∀ [Inhabited Unit], Int.tmod (n : Int) 64 = (s : Int) := by intro _; rw [Int.tmod_eq_emod_of_nonneg (by omega)]; omega
    have a4 : ∀ [Inhabited Unit], (n : Int) % 64 = (s : Int) := by intro _; omega
    have a5 : ∀ [Inhabited Unit], IntKind.u64.wrap (s : Int) = (s : Int) := by intro _; exact u64_same _ (by omega) (by omega)
    have hfin : valB 18446744073709551616 (X.drop q) / 2 ^ s = m / 2 ^ n := by
      rw [val_drop_div (by decide) X rX q hqX, vX, Nat.div_div_eq_div_mul, hqs, Nat.pow_add, Nat.pow_mul]
    have HFIN := Lib.hid hfin
    have HcX := Lib.hid hcx
    have RX := Lib.hid rX
    have HSE := Lib.hid hs
    clear hXe h hqs hfin hcx rX vX hge hm1 hs
    generalize blen m = bl at *
    go_enter Tryz.func87, Tryz.ntmps87
    go_upto_region 6 with (go_at_call 86; refine HLN.out.mono ?_; rintro e w1 ⟨rfl, rfl⟩)
    have hbn : ¬ bl ≤ n := by omega
    simp only [hbn, decide_false]
    clear a1 a2 a3 a4 a5 HLN e1 hbn
    go_loopw [6, 7] (fun v i wr => ∃ (k j : Nat) (L : List Int), Hid (k = q + j) ∧ k ≤ X.length ∧ i = .int .i64 k ∧ Hid (Rng 18446744073709551616 L) ∧ Hid (valB 18446744073709551616 L + 18446744073709551616 ^ j * (valB 18446744073709551616 (X.drop k) / 2 ^ s) = m / 2 ^ n) ∧ wr.ownsRow w.heap.size 65 1 v j (L.map (Value.int .u64)) ∧ Below w.heap.size w wr) (fun _ i _ => X.length - (intOf i).toNat)
    case atStart => exact ⟨q, 0, [], Lib.hid rfl, hqX, rfl, Lib.hid (fun x hx => by cases hx), Lib.hid (by simp [valB]; exact HFIN.out), World.ownsRow_nil _ _ _ _, Below.refl _ _⟩
    case round =>
      obtain ⟨k, j, L, HKJ, hk, rfl, HR, HV, hown, hbel⟩ := hrel
      obtain ⟨wi, rfl⟩ : ∃ wi : World, wi = wr := ⟨_, rfl⟩
      have HO := Lib.hid hown
      have HB := Lib.hid hbel
      have hsz := hbel.size
      have HLL := Lib.hid (own_len_k hown)
      have hjb : j ≤ 1000000 := by have := HKJ.out; omega
      clear hown hbel
      by_cases hx : k < X.length
      · have dX := RX.out.getD (by decide) k
        obtain ⟨x, ex⟩ : ∃ d : Nat, X[k]?.getD 0 = (d : Int) := ⟨(X[k]?.getD 0).toNat, by omega⟩
        obtain ⟨b, off, e2, hlb, cX⟩ := HcX.out.cell k hx
        rw [ex] at cX dX
        replace cX := (HB.out.cell (p := ⟨b, off + k, none⟩) hlb).trans cX
        subst e2
        have hdv := drop_val (B := 18446744073709551616) X k x hx ex
        obtain ⟨h1, hh1⟩ : ∃ h1, valB 18446744073709551616 (X.drop (k + 1)) = h1 := ⟨_, rfl⟩
        rw [hh1] at hdv
        have hst := down_step hdv HSE.out
        obtain ⟨f1, f2⟩ := down_digit (h1 := h1) (show x < 18446744073709551616 by omega) HSE.out
        obtain ⟨lo, hlo⟩ : ∃ lo : Nat, x / 2 ^ s = lo := ⟨_, rfl⟩
        obtain ⟨hi, hhi⟩ : ∃ hi : Nat, h1 % 2 ^ s * 2 ^ e = hi := ⟨_, rfl⟩
        rw [hlo, hhi] at hst f2
        rw [hlo] at f1
        obtain ⟨d, hd⟩ : ∃ d : Nat, d = lo + hi := ⟨_, rfl⟩
        rw [← hd] at hst f2
        have hv2 : valB 18446744073709551616 (L ++ [(d : Int)]) + 18446744073709551616 ^ (j + 1) * (valB 18446744073709551616 (X.drop (k + 1)) / 2 ^ s) = m / 2 ^ n := by
          rw [valB_snoc _ _ _ j HLL.out, Int.toNat_natCast, ← HV.out, hst, hh1, Nat.pow_succ, Nat.mul_add, Nat.mul_assoc, Nat.add_assoc]
        have HV2 := Lib.hid hv2
        have HR2 := Lib.hid (show Rng 18446744073709551616 (L ++ [(d : Int)]) from HR.out.append (by intro y hy; simp only [List.mem_singleton] at hy; subst hy; omega))
        have ix : (k : Int) < (X.length : Int) := by omega
        have i0 : (0 : Int) ≤ (k : Int) := by omega
        have hpc : ((2 : Int) ^ s) = ((2 ^ s : Nat) : Int) := by simp
        have hpe : ((2 : Int) ^ e) = ((2 ^ e : Nat) : Int) := by simp
        have r1 : ∀ [Inhabited Unit], (x : Int) / 2 ^ s = (lo : Int) := by intro _; rw [hpc, ← hlo]; rfl
        have r5 : ∀ [Inhabited Unit], (64 : Int) - (s : Int) = (e : Int) := by intro _; have := HSE.out; omega
        have r6 : ∀ [Inhabited Unit], IntKind.u64.wrap (e : Int) = (e : Int) := by intro _; have := HSE.out; exact u64_same _ (by omega) (by omega)
        have rk : ∀ [Inhabited Unit], RowKit.wrap64 ((k : Int) + 1) = (k : Int) + 1 := by intro _; exact IntWalk.wrap64_in _ ⟨by omega, by omega⟩
        have ge : (e : Int) ≤ 64 := by have := HSE.out; omega
        have ge0 : (0 : Int) ≤ (e : Int) := by omega
        clear hv2 hst
        by_cases hs0 : s = 0
        · have g2 : ¬ (0 : Int) < (s : Int) := by omega
          have g1 : decide ((0 : Int) < (s : Int)) = false := by simp; omega
          have hd0 : d = lo := by rw [hd, ← hhi, hs0]; simp [Nat.mod_one]
          subst hd0
          clear hd hhi hlo f1 f2 hpc hpe hs0 hdv hh1 ex dX r5 r6
          as_aux_lemma =>
            go_upto_region 11 with fail
            go_wp2_with (at_builtin; (refine wpl_append1b 50 65 .u64 8 (by decide) infoU64n Tryz.underlying50 w.heap.size _ j L (d : Int) _ _ _ rfl rfl rfl HO.out rfl (by omega) hsz ?_); intro v' w3 hown1 hbel1 _; have HO1 := Lib.hid hown1; have HB1 := Lib.hid (hbel1 _ _ (Nat.le_refl _) HB.out); clear hown1 hbel1)
            go_wp2
            go_roundw
            case rel =>
              have hA : Hid (k + 1 = q + (j + 1)) := Lib.hid (by have := HKJ.out; omega)
              first
                | exact ⟨k + 1, j + 1, _, hA, by omega, by go_num, HR2, HV2, HO1.out, HB1.out⟩
                | exact ⟨k + 1, j + 1, hA, by omega, by go_num, _, HR2, HV2, HO1.out, HB1.out⟩
            case measure => simp [intOf]; omega
        · have g2 : (0 : Int) < (s : Int) := by omega
          by_cases hx1 : k + 1 < X.length
          · obtain ⟨b2, o2, ee, hlb2, cY⟩ := HcX.out.cell (k + 1) hx1
            cases ee
            have dY := RX.out.getD (by decide) (k + 1)
            obtain ⟨y, ey⟩ : ∃ d : Nat, X[k + 1]?.getD 0 = (d : Int) := ⟨(X[k + 1]?.getD 0).toNat, by omega⟩
            rw [ey] at cY dY
            replace cY := (HB.out.cell (p := ⟨b, off + (k + 1), none⟩) hlb2).trans cY
            have hdv2 := drop_val (B := 18446744073709551616) X (k + 1) y hx1 ey
            rw [hh1] at hdv2
            have hhg := down_high HSE.out hdv2
            rw [hhi] at hhg
            have r2 : ∀ [Inhabited Unit], IntKind.u64.wrap ((y : Int) * 2 ^ e) = (hi : Int) := by intro _; rw [hpe, ← Int.natCast_mul]; simp only [IntKind.wrap, IntKind.bits, IntKind.signed]; simp only [Bool.false_and, if_false]; rw [← hhg]; rfl
            have hhm : (hi : Int) % 2 ^ e = 0 := by rw [hpe, ← Int.natCast_emod, ← hhi, Nat.mul_mod_left]; rfl
            have hle : (lo : Int) < 2 ^ e := by rw [hpe]; omega
            have r3 : ∀ [Inhabited Unit], bits BinOp.or IntKind.u64 (lo : Int) (hi : Int) = (d : Int) := by intro _; rw [or_turn _ _ (by omega) (by omega), bits_join IntKind.u64 64 (by decide) u64_same e (hi : Int) (lo : Int) (by omega) hhm (by omega) (by omega) hle (by omega)]; omega
            have ix1 : (k : Int) + 1 < (X.length : Int) := by omega
            have g1 : decide ((0 : Int) < (s : Int)) = true := by simp; omega
            clear hd hhi hlo f1 f2 hpc hpe hs0 hdv hdv2 hh1 ex ey hhm hle hhg
            as_aux_lemma =>
              go_upto_region 11 with fail
              go_wp2_with (at_builtin; (refine wpl_append1b 50 65 .u64 8 (by decide) infoU64n Tryz.underlying50 w.heap.size _ j L (d : Int) _ _ _ rfl rfl rfl HO.out rfl (by omega) hsz ?_); intro v' w3 hown1 hbel1 _; have HO1 := Lib.hid hown1; have HB1 := Lib.hid (hbel1 _ _ (Nat.le_refl _) HB.out); clear hown1 hbel1)
              go_wp2
              go_roundw
              case rel =>
                have hA : Hid (k + 1 = q + (j + 1)) := Lib.hid (by have := HKJ.out; omega)
                first
                  | exact ⟨k + 1, j + 1, _, hA, by omega, by go_num, HR2, HV2, HO1.out, HB1.out⟩
                  | exact ⟨k + 1, j + 1, hA, by omega, by go_num, _, HR2, HV2, HO1.out, HB1.out⟩
              case measure => simp [intOf]; omega
          · have hd0 : d = lo := by
              have hz : h1 = 0 := by rw [← hh1, List.drop_eq_nil_of_le (by omega)]; rfl
              rw [hd, ← hhi, hz]
              simp
            subst hd0
            have ix1 : ¬ (k : Int) + 1 < (X.length : Int) := by omega
            have g1 : decide ((0 : Int) < (s : Int)) = true := by simp; omega
            clear hd hhi hlo f1 f2 hpc hpe hs0 hdv hh1 ex dX r5 r6
            as_aux_lemma =>
              go_upto_region 11 with fail
              go_wp2_with (at_builtin; (refine wpl_append1b 50 65 .u64 8 (by decide) infoU64n Tryz.underlying50 w.heap.size _ j L (d : Int) _ _ _ rfl rfl rfl HO.out rfl (by omega) hsz ?_); intro v' w3 hown1 hbel1 _; have HO1 := Lib.hid hown1; have HB1 := Lib.hid (hbel1 _ _ (Nat.le_refl _) HB.out); clear hown1 hbel1)
              go_wp2
              go_roundw
              case rel =>
                have hA : Hid (k + 1 = q + (j + 1)) := Lib.hid (by have := HKJ.out; omega)
                first
                  | exact ⟨k + 1, j + 1, _, hA, by omega, by go_num, HR2, HV2, HO1.out, HB1.out⟩
                  | exact ⟨k + 1, j + 1, hA, by omega, by go_num, _, HR2, HV2, HO1.out, HB1.out⟩
              case measure => simp [intOf]; omega
      · have ix : ¬ (k : Int) < (X.length : Int) := by omega
        have hv := HV.out
        rw [List.drop_eq_nil_of_le (by omega)] at hv
        have hv2 : valB 18446744073709551616 L = m / 2 ^ n := by rw [← hv]; simp [valB]
        have HV3 := Lib.hid hv2
        clear hv hv2 hx
        (have hown1 := HO.out; obtain ⟨a3, c3, rfl, _⟩ := own_shape hown1; obtain ⟨a4, c4, he, hI⟩ := own_ints hown1 (fun x hx => by have := HR.out x hx; exact wf_u64_iff.2 ⟨by omega, by omega⟩); injection he with e1 e2 e3; clear e2; subst e1; subst e3; have HCP := Lib.hid (own_cap1 hown1); have HFR := Lib.hid (own_fresh hown1); have HCQ : Hid (L.length ≤ c3 ∧ c3 ≤ 9223372036854775807) := Lib.hid (by rw [HLL.out]; exact HCP.out); have HI := Lib.hid hI; have HCC := Lib.hid (ntrim_any a3 c3 wi.heap.size _ wi hI HCQ.out.1 HCQ.out.2); rw [HV3.out, HLL.out] at HCC; have HD := Lib.hid (nat_of_ints HI.out HCQ.out); rw [HV3.out] at HD; clear hown1 hI HI)
        go_wp2_with (first | (go_at_call 60; refine HCC.out.mono ?_; rintro e w4 ⟨rfl, rfl⟩))
        go_ret
        exact ⟨a3, c3, rfl, HD.out, HB.out, HFR.out⟩
theorem down2_any (a : Option Addr) (c m n : Nat) (w : World) (h : NAt w w.heap.size a c m) (hm : (dig 18446744073709551616 m).length ≤ 1000000) (hn : n ≤ 60000000) :
    Calls Tryz.prog 87 #[.slice a (dig 18446744073709551616 m).length c, .int .i64 n] w (RetN w (m / 2 ^ n)) := (down2F_any a c m n w h hm hn).mono fun _ _ => RetNF.ret
end Go.Proofs.YtddhhfhammmaaaaGreat
