/- Walks of the references' whole numbers: by one digit. -/
import Derived.Test.YtddhhfhammmaaaaGreatN14
import Derived.BigQuiet
import Derived.WalkMore
import Derived.Deep.RegionHeld3
import Derived.Deep.RegionWith
import Derived.BigRegion
import Derived.Deep.Cut
import Derived.Deep.CutBlock
import Derived.Deep.CutRange
set_option linter.unusedVariables false
set_option linter.unusedSimpArgs false
namespace Go.Proofs.YtddhhfhammmaaaaGreat
open Go.RowKit Go.Rt

theorem drop_set_next (Q : List Int) (j : Nat) (v : Int) : (Q.set j v).drop (j + 1) = Q.drop (j + 1) := by
  apply List.ext_getElem?
  intro i
  rw [List.getElem?_drop, List.getElem?_drop, List.getElem?_set_ne (by omega)]
theorem short_step {B d r x Vx Vq : Nat} (h : Vx = d * Vq + r) : x + B * Vx = d * ((r * B + x) / d + B * Vq) + (r * B + x) % d := by
  have h1 := Nat.div_add_mod (r * B + x) d
  rw [Nat.mul_add, h, Nat.mul_add, Nat.mul_left_comm B d Vq, Nat.mul_comm B r]
  omega
theorem short_digit {B d r x : Nat} (hr : r < d) (hx : x < B) : (r * B + x) / d < B := by
  refine Nat.div_lt_of_lt_mul ?_
  have : (r + 1) * B ≤ d * B := Nat.mul_le_mul hr (Nat.le_refl _)
  rw [Nat.add_mul, Nat.one_mul] at this
  omega

set_option maxHeartbeats 4000000 in
set_option maxRecDepth 100000 in
theorem short_any (a : Option Addr) (c m d : Nat) (w : World) (h : HAt w w.heap.size a c m) (hm : (dig 4294967296 m).length ≤ 2000000) (hd0 : 0 < d) (hd1 : d < 4294967296) :
    Calls Tryz.prog 85 #[.slice a (dig 4294967296 m).length c, .int .u32 d] w fun e w' => ∃ a' c', e = .returned (.tuple #[.slice a' (dig 4294967296 (m / d)).length c', .int .u32 ((m % d : Nat) : Int)]) ∧ HAt w' w'.heap.size a' c' (m / d) ∧ Below w.heap.size w w' := by
  obtain ⟨X, hXe⟩ : ∃ X, dig 4294967296 m = X := ⟨_, rfl⟩
  have rX : Rng 4294967296 X := by rw [← hXe]; exact dig_rng (by decide) _
  have vX : valB 4294967296 X = m := by rw [← hXe]; exact val_dig (by decide) _
  have hcx := h.li
  rw [hXe] at hcx ⊢
  rw [hXe] at hm
  clear hXe h
  obtain ⟨N, hN⟩ : ∃ N, X.length = N := ⟨_, rfl⟩
  have hmk := make_u32 N (by omega)
  have eW : ∀ [Inhabited Unit], RowKit.wrap64 ((N : Int) - 1) = (N : Int) - 1 := by intro _; exact IntWalk.wrap64_in _ ⟨by omega, by omega⟩
  have HcX := Lib.hid hcx
  have RX := Lib.hid rX
  have VX := Lib.hid vX
  have HN := Lib.hid hN
  rw [hN]
  clear hcx rX vX
  go_enter Tryz.func85, Tryz.ntmps85
  go_wp2
  clear hmk eW
  have row := World.ownsRow_lit (base := w.heap.size) (e := 111) (size := 1) w (madeCells #[Value.int .u32 0] N) N (Nat.le_refl _) (by unfold maxLen; omega) (by rw [size_madeCells, Nat.mul_one])
  rw [made_zeros] at row
  have bel0 : Below w.heap.size w (w.alloc (.cells (madeCells #[Value.int .u32 0] N) 111)) := (Below.refl _ _).alloc (Nat.le_refl _) _
  go_loopw [7, 8] (fun rv iv wr => ∃ (k r : Nat) (I : Int) (Q : List Int), k ≤ N ∧ iv = .int .i64 I ∧ I = (k : Int) - 1 ∧ rv = .int .u64 r ∧ r < d ∧ Hid (Rng 4294967296 Q) ∧ Hid (valB 4294967296 (X.drop k) = d * valB 4294967296 (Q.drop k) + r) ∧ Hid (wr.ownsRow w.heap.size 111 1 (.slice (some ⟨w.heap.size, 0, none⟩) N N) N (Q.map (Value.int .u32))) ∧ Hid (Below w.heap.size w wr)) (fun _ iv _ => (intOf iv + 1).toNat)
  case atStart => exact ⟨N, 0, _, List.replicate N 0, Nat.le_refl _, rfl, rfl, rfl, hd0, Lib.hid (fun x hx => by rw [(List.mem_replicate.1 hx).2]; omega), Lib.hid (by rw [List.drop_eq_nil_of_le (by omega), List.drop_eq_nil_of_le (by simp)]; simp [valB]), Lib.hid row, Lib.hid bel0⟩
  case round =>
    clear row bel0
    obtain ⟨k, r, I, Q, hk, rfl, hI, rfl, hr, HR, HV, HO, HB⟩ := hrel
    obtain ⟨wi, rfl⟩ : ∃ wi : World, wi = wr := ⟨_, rfl⟩
    have HQL := Lib.hid (own_len_k HO.out)
    by_cases hk0 : k = 0
    · obtain rfl : I = -1 := by omega
      have hv := HV.out
      rw [hk0, List.drop_zero, List.drop_zero, VX.out] at hv
      have hq : valB 4294967296 Q = m / d := by rw [hv, Nat.mul_add_div hd0, Nat.div_eq_of_lt hr, Nat.add_zero]
      have hrr : r = m % d := by rw [hv, Nat.mul_add_mod, Nat.mod_eq_of_lt hr]
      have eR : ∀ [Inhabited Unit], IntKind.u32.wrap (r : Int) = (r : Int) := by intro _; rw [IntKind.wrap_u32]; omega
      have HQ := Lib.hid hq
      have HRR := Lib.hid hrr
      clear hv hq hrr hI hk0
      (have hown1 := HO.out; obtain ⟨a4, c4, he, hI⟩ := own_ints hown1 (fun x hx => by have := HR.out x hx; exact wf_u32_iff.2 ⟨by omega, by omega⟩); injection he with e1 e2 e3; clear e2; subst e1; subst e3; have HCP := Lib.hid (own_cap1 hown1); have HCQ : Hid (Q.length ≤ N ∧ N ≤ 9223372036854775807) := Lib.hid (by rw [HQL.out]; exact HCP.out); have HI := Lib.hid hI; have HC := Lib.hid (cut_any (some ⟨w.heap.size, 0, none⟩) N wi.heap.size _ wi hI HCQ.out.1 HCQ.out.2); rw [HQ.out, HQL.out] at HC; have HD := Lib.hid (dig_of_ints HI.out HCQ.out); rw [HQ.out] at HD; clear hown1 hI HI)
      go_wp2_with (go_at_call 78; refine HC.out.mono ?_; rintro e w4 ⟨rfl, rfl⟩)
      refine bodyPost_ret (v := .tuple #[.slice (some ⟨w.heap.size, 0, none⟩) (dig 4294967296 (m / d)).length N, .int .u32 (r : Int)]) (by rw [results_tmp2 rfl]; go_simp) rfl ?_
      exact ⟨_, _, by rw [← HRR.out], HD.out, HB.out⟩
    · obtain ⟨j, rfl⟩ : ∃ j, k = j + 1 := ⟨k - 1, by omega⟩
      obtain rfl : I = (j : Int) := by omega
      clear hI hk0
      have hj : j < X.length := by have := HN.out; omega
      have dX := RX.out.getD (by decide) j
      obtain ⟨x, ex⟩ : ∃ d : Nat, X[j]?.getD 0 = (d : Int) := ⟨(X[j]?.getD 0).toNat, by omega⟩
      obtain ⟨b, off, ea, hlb, cX⟩ := HcX.out.cell j hj
      rw [ex] at cX dX
      replace cX := (HB.out.cell (p := ⟨b, off + j, none⟩) hlb).trans cX
      subst ea
      have hst := short_step (B := 4294967296) (x := x) HV.out
      rw [← drop_val X j x hj ex] at hst
      have hdg := short_digit (B := 4294967296) (x := x) hr (by omega)
      obtain ⟨t, ht⟩ : ∃ t, t = r * 4294967296 + x := ⟨_, rfl⟩
      rw [← ht] at hst hdg
      have htb : t < 18446744073709551616 := by omega
      obtain ⟨qd, hqd⟩ : ∃ q, q = t / d := ⟨_, rfl⟩
      obtain ⟨r2, hr2⟩ : ∃ r2, r2 = t % d := ⟨_, rfl⟩
      rw [← hqd] at hst hdg
      rw [← hr2] at hst
      have hr2d : r2 < d := by rw [hr2]; exact Nat.mod_lt _ hd0
      have jN : j < N := by omega
      have hQj : j < Q.length := by rw [HQL.out]; exact jN
      have hv2 : valB 4294967296 (X.drop j) = d * valB 4294967296 ((Q.set j (qd : Int)).drop j) + r2 := by
        rw [drop_val (Q.set j (qd : Int)) j qd (by simpa using hQj) (by simp [hQj]), drop_set_next]
        exact hst
      have HV2 := Lib.hid hv2
      have HR2 := Lib.hid (HR.out.set j qd hdg)
      have HO2 := Lib.hid (stored_u32 HO.out j (qd : Int))
      have HB2 : Hid (Below w.heap.size w (wi.setCell ⟨w.heap.size, j, none⟩ (.int .u32 (qd : Int)))) := Lib.hid (Below.setCell HB.out (Nat.le_refl _) _)
      have cM := own_cell HO.out jN
      have fM := HO.out.frozenAt j
      generalize Q[j]?.getD 0 = oldq at cM
      obtain ⟨rs, hrs⟩ : ∃ rs : Nat, rs = r * 4294967296 := ⟨_, rfl⟩
      have s1 : ∀ [Inhabited Unit], (r : Int) * 4294967296 = (rs : Int) := by intro _; omega
      have s2 : ∀ [Inhabited Unit], IntKind.u64.wrap (rs : Int) = (rs : Int) := by intro _; exact u64_same _ (by omega) (by omega)
      have s3 : ∀ [Inhabited Unit], bits BinOp.or IntKind.u64 (rs : Int) (x : Int) = (t : Int) := by intro _; rw [bits_join IntKind.u64 64 (by decide) u64_same 32 (rs : Int) (x : Int) (by omega) (by omega) (by omega) (by omega) (by omega) (by omega)]; omega
      have s4 : ∀ [Inhabited Unit], Int.tdiv (t : Int) (d : Int) = (qd : Int) := by intro _; rw [Int.tdiv_eq_ediv_of_nonneg (by omega), hqd]; rfl
      have s5 : ∀ [Inhabited Unit], (t : Int) / (d : Int) = (qd : Int) := by intro _; rw [hqd]; rfl
      have s6 : ∀ [Inhabited Unit], Int.tmod (t : Int) (d : Int) = (r2 : Int) := by intro _; rw [Int.tmod_eq_emod_of_nonneg (by omega), hr2]; rfl
      have s7 : ∀ [Inhabited Unit], (t : Int) % (d : Int) = (r2 : Int) := by intro _; rw [hr2]; rfl
      have s8 : ∀ [Inhabited Unit], IntKind.u32.wrap (qd : Int) = (qd : Int) := by intro _; rw [IntKind.wrap_u32]; omega
      have s9 : ∀ [Inhabited Unit], IntKind.u64.wrap (qd : Int) = (qd : Int) := by intro _; exact u64_same _ (by omega) (by omega)
      have s10 : ∀ [Inhabited Unit], IntKind.u64.wrap (r2 : Int) = (r2 : Int) := by intro _; exact u64_same _ (by omega) (by omega)
      have ej : ∀ [Inhabited Unit], RowKit.wrap64 ((j : Int) - 1) = (j : Int) - 1 := by intro _; exact IntWalk.wrap64_in _ ⟨by omega, by omega⟩
      have ix : (j : Int) < (X.length : Int) := by omega
      have iN : (j : Int) < (N : Int) := by omega
      have i0 : (0 : Int) ≤ (j : Int) := by omega
      have dn : ¬ (d : Int) = 0 := by omega
      have d0 : (0 : Int) < (d : Int) := by omega
      have hNX := HN.out
      clear hst ht hqd hr2 hrs hdg hv2 ex HV
      skip
      go_wp2
      go_roundw
      case rel => exact ⟨j, r2, _, _, by omega, rfl, rfl, rfl, hr2d, HR2, HV2, HO2, HB2⟩
      case measure => simp [intOf]
end Go.Proofs.YtddhhfhammmaaaaGreat
