/- Walks of the references' whole numbers: times a power of 2. -/
import Derived.Test.YtimjhjacinchjaaGreatN7
import Derived.BigQuiet
import Derived.WalkMore
import Derived.Deep.RegionHeld3
import Derived.Deep.RegionWith
import Derived.BigRegion
import Derived.Deep.Cut
import Derived.Deep.CutBlock
import Derived.Deep.CutRange
set_option linter.unusedVariables false
set_option linter.unusedSimpArgs false
namespace Go.Proofs.YtimjhjacinchjaaGreat
open Go.RowKit Go.Rt

theorem make_nat (n : Nat) (hn : n ≤ 17592186044416) (w : World) : (Instr.makeSlice 69 (.int .i64 (n : Int)) (.int .i64 (n : Int))).run Tryz.prog w = .ok (.slice (some ⟨w.heap.size, 0, none⟩) n n) (w.alloc (.cells (madeCells #[Value.int .u64 0] n) 79)) := by
  obtain ⟨i, hi, hz0, hz1, hz2⟩ := info_parts infoU64n
  have hr := run_make (P := Tryz.prog) w 69 79 i (.int .u64 0) Tryz.underlying69 hi hz0 .i64 .i64 n n (by omega) (Int.le_refl _) (by rw [hz2]; omega) (by omega)
  simp only [Int.toNat_natCast, hz1, Nat.mul_one, Value.cells] at hr
  exact hr
theorem up_facts (x s : Nat) (hs : s < 64) (hx : x < 18446744073709551616) : ∃ lo hi : Nat, x * 2 ^ s = lo + 18446744073709551616 * hi ∧ lo % 2 ^ s = 0 ∧ lo + 2 ^ s ≤ 18446744073709551616 ∧ hi < 2 ^ s ∧ lo = x * 2 ^ s % 18446744073709551616 ∧ (0 < s → hi = x / 2 ^ (64 - s)) ∧ (s = 0 → hi = 0) := by
  have hp : 1 ≤ 2 ^ s := Nat.pow_pos (by decide)
  have hd : 2 ^ (64 - s) * 2 ^ s = 18446744073709551616 := by rw [← Nat.pow_add, show 64 - s + s = 64 by omega]
  have hdv : 2 ^ s ∣ 18446744073709551616 := ⟨2 ^ (64 - s), by rw [Nat.mul_comm]; exact hd.symm⟩
  have h0 : x * 2 ^ s % 18446744073709551616 % 2 ^ s = 0 := by rw [Nat.mod_mod_of_dvd _ hdv]; exact Nat.mul_mod_left _ _
  have hlt : x * 2 ^ s % 18446744073709551616 < 18446744073709551616 := Nat.mod_lt _ (by decide)
  refine ⟨x * 2 ^ s % 18446744073709551616, x * 2 ^ s / 18446744073709551616, (Nat.mod_add_div _ _).symm, h0, ?_, ?_, rfl, ?_, ?_⟩
  · obtain ⟨e, he⟩ := Nat.dvd_of_mod_eq_zero h0
    generalize x * 2 ^ s % 18446744073709551616 = lo at *
    have h1 : e < 2 ^ (64 - s) := by
      by_cases hc : e < 2 ^ (64 - s)
      · exact hc
      · have := Nat.mul_le_mul (Nat.le_refl (2 ^ s)) (show 2 ^ (64 - s) ≤ e by omega)
        rw [Nat.mul_comm, hd] at this
        omega
    have h2 : 2 ^ s * (e + 1) ≤ 2 ^ s * 2 ^ (64 - s) := Nat.mul_le_mul (Nat.le_refl _) h1
    rw [Nat.mul_comm (2 ^ s) (2 ^ (64 - s)), hd, Nat.mul_add, Nat.mul_one] at h2
    omega
  · refine Nat.div_lt_of_lt_mul ?_
    exact (Nat.mul_lt_mul_right hp).2 hx
  · intro h
    rw [← hd, Nat.mul_div_mul_right _ _ hp]
  · rintro rfl
    simp
    first
      | exact hx
      | exact Nat.div_eq_of_lt hx
theorem up_step {B e U x p C lo hi : Nat} {L : List Int} {k : Nat} {V : Nat} (h : valB B L + B ^ (e + k) * C = B ^ e * p * V) (hl : L.length = e + k) (hx : x * p = lo + B * hi) :
    valB B (L ++ [((lo + C : Nat) : Int)]) + B ^ (e + (k + 1)) * hi = B ^ e * p * (V + B ^ k * x) := by
  rw [valB_snoc B L _ (e + k) hl, Int.toNat_natCast, show e + (k + 1) = e + k + 1 by omega, Nat.pow_succ, Nat.mul_add (B ^ e * p), ← h]
  have e1 : B ^ e * p * (B ^ k * x) = B ^ (e + k) * (x * p) := by
    rw [Nat.pow_add, Nat.mul_assoc, Nat.mul_assoc, Nat.mul_left_comm p (B ^ k) x, Nat.mul_comm p x]
  rw [e1, hx, Nat.mul_add, Nat.mul_add, Nat.mul_assoc]
  omega
theorem valB_zeros (B n : Nat) : valB B (List.replicate n 0) = 0 := by
  induction n with
  | zero => rfl
  | succ n ih => rw [List.replicate_succ, valB, ih]; rfl

set_option maxHeartbeats 4000000 in
set_option maxRecDepth 100000 in
theorem up2F_any (a : Option Addr) (c m n : Nat) (w : World) (h : NAt w w.heap.size a c m) (hm : (dig 18446744073709551616 m).length ≤ 1000000) (hn : n ≤ 60000000) :
    Calls Tryz.prog 40 #[.slice a (dig 18446744073709551616 m).length c, .int .i64 n] w (RetNF w (m * 2 ^ n)) := by
  obtain ⟨X, hXe⟩ : ∃ X, dig 18446744073709551616 m = X := ⟨_, rfl⟩
  have rX : Rng 18446744073709551616 X := by rw [← hXe]; exact dig_rng (by decide) _
  have vX : valB 18446744073709551616 X = m := by rw [← hXe]; exact val_dig (by decide) _
  have hcx := h.li
  have hmX := hcx.len
  rw [hXe] at hcx hmX ⊢
  rw [hXe] at hm
  clear hXe h
  by_cases hl : X.length = 0
  · have hm0 : m * 2 ^ n = 0 := by rw [← vX, List.length_eq_zero_iff.1 hl]; simp [valB]
    have e1 : ((X.length : Int) == 0) = true := by simp [hl]
    rw [hm0]
    clear hm0 hl vX
    go_enter Tryz.func40, Tryz.ntmps40
    go_wp2
    go_ret
    exact ⟨none, 0, rfl, nat_zero _ _, Below.refl _ _, fresh_none _⟩
  · have e1 : ((X.length : Int) == 0) = false := by simp; exact fun h => hl (by rw [h]; rfl)
    obtain ⟨q, s, hqs, hs, hq⟩ : ∃ q s : Nat, n = 64 * q + s ∧ s < 64 ∧ q ≤ 1000000 := ⟨n / 64, n % 64, by omega, by omega, by omega⟩
    have a1 : ∀ [Inhabited Unit], Int.tdiv (n : Int) 64 = (q : Int) := by intro _; rw [Int.tdiv_eq_ediv_of_nonneg (by omega)]; omega
    have a2 : ∀ [Inhabited Unit], (n : Int) / 64 = (q : Int) := by intro _; omega
    have a3 : ∀ [Inhabited Unit], Int.tmod (n : Int) 64 = (s : Int) := by intro _; rw [Int.tmod_eq_emod_of_nonneg (by omega)]; omega
    have a4 : ∀ [Inhabited Unit], (n : Int) % 64 = (s : Int) := by intro _; omega
    have a5 : ∀ [Inhabited Unit], IntKind.u64.wrap (s : Int) = (s : Int) := by intro _; exact u64_same _ (by omega) (by omega)
    have HQS := Lib.hid hqs
    clear hqs
    have hmk := make_nat q (by omega)
    go_enter Tryz.func40, Tryz.ntmps40
    go_upto_region 7 with fail
    have row := World.ownsRow_lit (base := w.heap.size) (e := 79) (size := 1) w (madeCells #[Value.int .u64 0] q) q (Nat.le_refl _) (by unfold maxLen; omega) (by rw [size_madeCells, Nat.mul_one])
    rw [made_zeros] at row
    have bel0 : Below w.heap.size w (w.alloc (.cells (madeCells #[Value.int .u64 0] q) 79)) := (Below.refl _ _).alloc (Nat.le_refl _) _
    have HcX := Lib.hid hcx
    have RX := Lib.hid rX
    have VX := Lib.hid vX
    clear hcx rX vX hmk a1 a2 a3 a4 a5 hl
    have hp1 : 1 ≤ 2 ^ s := Nat.pow_pos (by decide)
    have HP1 := Lib.hid hp1
    clear hp1
    go_loopw [5, 7, 8] (fun v c i wr => ∃ (k C : Nat) (L : List Int), k ≤ X.length ∧ c = .int .u64 C ∧ i = .int .i64 k ∧ Hid (C < 2 ^ s) ∧ Hid (Rng 18446744073709551616 L) ∧ Hid (valB 18446744073709551616 L + 18446744073709551616 ^ (q + k) * C = 18446744073709551616 ^ q * 2 ^ s * valB 18446744073709551616 (X.take k)) ∧ wr.ownsRow w.heap.size 79 1 v (q + k) (L.map (Value.int .u64)) ∧ Below w.heap.size w wr) (fun _ _ i _ => X.length - (intOf i).toNat)
    case atStart => exact ⟨0, 0, List.replicate q 0, Nat.zero_le _, rfl, rfl, HP1, Lib.hid (fun x hx => by rw [(List.mem_replicate.1 hx).2]; omega), Lib.hid (by simp [valB_zeros, valB]), row, bel0⟩
    case round =>
      clear row bel0
      obtain ⟨k, C, L, hk, rfl, rfl, HC, HR, HV, hown, hbel⟩ := hrel
      obtain ⟨wi, rfl⟩ : ∃ wi : World, wi = wr := ⟨_, rfl⟩
      have HO := Lib.hid hown
      have HB := Lib.hid hbel
      have hsz := hbel.size
      have HLL := Lib.hid (own_len_k hown)
      clear hown hbel
      by_cases hx : k < X.length
      · skip
        have dX := RX.out.getD (by decide) k
        obtain ⟨x, ex⟩ : ∃ d : Nat, X[k]?.getD 0 = (d : Int) := ⟨(X[k]?.getD 0).toNat, by omega⟩
        obtain ⟨b, off, e2, hlb, cX⟩ := HcX.out.cell k hx
        rw [ex] at cX dX
        have hc0 := cX
        replace cX := (HB.out.cell (p := ⟨b, off + k, none⟩) hlb).trans cX
        subst e2
        obtain ⟨lo, hi, f1, f2, f3, f4, f5, f6, f7⟩ := up_facts x s hs (by omega)
        have hst := up_step (U := 0) HV.out HLL.out f1
        have t1 := valB_take_succ' 18446744073709551616 X k
        rw [ex, Int.toNat_natCast] at t1
        rw [← t1] at hst
        have hC := HC.out
        have hlo : lo + C < 18446744073709551616 := by omega
        obtain ⟨d, hd⟩ : ∃ d : Nat, d = lo + C := ⟨_, rfl⟩
        rw [← hd] at hst
        have hR2 : Rng 18446744073709551616 (L ++ [(d : Int)]) := HR.out.append (by intro y hy; simp only [List.mem_singleton] at hy; subst hy; omega)
        have HV2 := Lib.hid hst
        have HR2 := Lib.hid hR2
        have HH := Lib.hid f4
        have ix : (k : Int) < (X.length : Int) := by omega
        have i0 : (0 : Int) ≤ (k : Int) := by omega
        have hpc : ((2 : Int) ^ s) = ((2 ^ s : Nat) : Int) := by simp
        have r1 : ∀ [Inhabited Unit], IntKind.u64.wrap ((x : Int) * 2 ^ s) = (lo : Int) := by intro _; rw [hpc, ← Int.natCast_mul]; simp only [IntKind.wrap, IntKind.bits, IntKind.signed]; simp only [Bool.false_and, if_false]; rw [f5]; rfl
        have hlo2 : (lo : Int) % 2 ^ s = 0 := by rw [hpc, ← Int.natCast_emod, f2]; rfl
        have hCs : (C : Int) < 2 ^ s := by rw [hpc]; omega
        have r2 : ∀ [Inhabited Unit], bits BinOp.or IntKind.u64 (lo : Int) (C : Int) = (d : Int) := by intro _; rw [bits_join IntKind.u64 64 (by decide) u64_same s (lo : Int) (C : Int) (by omega) hlo2 (by omega) (by omega) hCs (by omega)]; omega
        clear hst hR2 t1 hC hlo hlo2 hCs hd f1 f2 f3 f4 f5 ex
        by_cases hs0 : s = 0
        · skip
          have g1 : (decide ((0 : Int) < (s : Int))) = false := by simp; omega
          have g2 : ¬ (0 : Int) < (s : Int) := by omega
          have hh := f7 hs0
          subst hh
          clear f6 f7 hpc
          clear hs0
          go_upto_region 10 with (at_builtin; (refine wpl_append1b 69 79 .u64 8 (by decide) infoU64n Tryz.underlying69 w.heap.size _ (q + k) L (d : Int) _ _ _ rfl rfl rfl HO.out rfl (by omega) hsz ?_); intro v' w3 hown1 hbel1 _; have HO1 := Lib.hid hown1; have HB1 := Lib.hid (hbel1 _ _ (Nat.le_refl _) HB.out); have cX2 := (HB1.out.cell (p := ⟨b, off + k, none⟩) hlb).trans hc0; clear hown1 hbel1)
          go_wp2
          go_roundw
          case rel => exact ⟨k + 1, 0, _, by omega, rfl, by go_num, HH, HR2, HV2, HO1.out, HB1.out⟩
          case measure => simp [intOf]; omega
        · skip
          have g1 : (0 : Int) < (s : Int) := by omega
          have hh := f6 (by omega)
          have r3 : ∀ [Inhabited Unit], (x : Int) / 2 ^ (64 - s) = (hi : Int) := by intro _; rw [hh]; simp
          clear f6 f7 hpc hh
          have r4 : ∀ [Inhabited Unit], IntKind.u64.wrap (64 - (s : Int)) = ((64 - s : Nat) : Int) := by intro _; rw [u64_same _ (by omega) (by omega)]; omega
          have r5 : ∀ [Inhabited Unit], (64 : Int) - (s : Int) = ((64 - s : Nat) : Int) := by intro _; omega
          clear hs0
          go_upto_region 10 with (at_builtin; (refine wpl_append1b 69 79 .u64 8 (by decide) infoU64n Tryz.underlying69 w.heap.size _ (q + k) L (d : Int) _ _ _ rfl rfl rfl HO.out rfl (by omega) hsz ?_); intro v' w3 hown1 hbel1 _; have HO1 := Lib.hid hown1; have HB1 := Lib.hid (hbel1 _ _ (Nat.le_refl _) HB.out); have cX2 := (HB1.out.cell (p := ⟨b, off + k, none⟩) hlb).trans hc0; clear hown1 hbel1)
          go_wp2
          go_roundw
          case rel => exact ⟨k + 1, hi, _, by omega, rfl, by go_num, HH, HR2, HV2, HO1.out, HB1.out⟩
          case measure => simp [intOf]; omega
      · have ix : ¬ (k : Int) < (X.length : Int) := by omega
        have hke : k = X.length := by omega
        have hv := HV.out
        rw [hke, List.take_length, VX.out, ← hke] at hv
        have hC := HC.out
        have hps : 2 ^ s ≤ 2 ^ 64 := Nat.pow_le_pow_right (by decide) (by omega)
        have hC64 : C < 18446744073709551616 := by omega
        have hv2 : valB 18446744073709551616 (L ++ [(C : Int)]) = m * 2 ^ n := by
          rw [valB_snoc _ _ _ (q + k) HLL.out, Int.toNat_natCast, hv, HQS.out, Nat.pow_add, Nat.pow_mul]
          rw [show (2 : Nat) ^ 64 = 18446744073709551616 from rfl, Nat.mul_comm]
        have HV3 := Lib.hid hv2
        have HR3 := Lib.hid (show Rng 18446744073709551616 (L ++ [(C : Int)]) from HR.out.append (by intro x hx; simp only [List.mem_singleton] at hx; subst hx; omega))
        have hll : (L ++ [(C : Int)]).length = q + k + 1 := by rw [List.length_append, HLL.out]; rfl
        have HLN := Lib.hid hll
        clear hv hv2 hll hC hps hke hx
        go_wp2_with (first | (at_builtin; (refine wpl_append1b 69 79 .u64 8 (by decide) infoU64n Tryz.underlying69 w.heap.size _ (q + k) L (C : Int) _ _ _ rfl rfl rfl HO.out rfl (by omega) hsz ?_); intro v' w3 hown1 hbel1 _; have HB1 := Lib.hid (hbel1 _ _ (Nat.le_refl _) HB.out); obtain ⟨a3, c3, rfl, _⟩ := own_shape hown1; obtain ⟨a4, c4, he, hI⟩ := own_ints hown1 (fun x hx => by have := HR3.out x hx; exact wf_u64_iff.2 ⟨by omega, by omega⟩); injection he with e1 e2 e3; clear e2; subst e1; subst e3; have HCP := Lib.hid (own_cap1 hown1); have HFR := Lib.hid (own_fresh hown1); have HCQ : Hid ((L ++ [(C : Int)]).length ≤ c3 ∧ c3 ≤ 9223372036854775807) := Lib.hid (by rw [HLN.out]; exact HCP.out); have HI := Lib.hid hI; have HCC := Lib.hid (ntrim_any a3 c3 w3.heap.size _ w3 hI HCQ.out.1 HCQ.out.2); rw [HV3.out, HLN.out] at HCC; have HD := Lib.hid (nat_of_ints HI.out HCQ.out); rw [HV3.out] at HD; clear hown1 hbel1 hI HI) | (go_at_call 60; refine HCC.out.mono ?_; rintro e w4 ⟨rfl, rfl⟩))
        go_ret
        exact ⟨a3, c3, rfl, HD.out, HB1.out, HFR.out⟩
theorem up2_any (a : Option Addr) (c m n : Nat) (w : World) (h : NAt w w.heap.size a c m) (hm : (dig 18446744073709551616 m).length ≤ 1000000) (hn : n ≤ 60000000) :
    Calls Tryz.prog 40 #[.slice a (dig 18446744073709551616 m).length c, .int .i64 n] w (RetN w (m * 2 ^ n)) := (up2F_any a c m n w h hm hn).mono fun _ _ => RetNF.ret
end Go.Proofs.YtimjhjacinchjaaGreat
