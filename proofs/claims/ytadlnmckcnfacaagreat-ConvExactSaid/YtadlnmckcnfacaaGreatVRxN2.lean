import Derived.Test.YtadlnmckcnfacaaGreatRows
import Derived.Test.YtadlnmckcnfacaaGreatVRxN1
import Derived.BigQuiet
import Derived.BigRegion
import Derived.Deep.Cut
import Derived.Deep.CutBlock
import Derived.Deep.CutRange
import Derived.Deep.RegionHeld3
import Derived.Deep.RegionWith
import Derived.WalkMore
set_option linter.unusedVariables false
set_option linter.unusedSimpArgs false
namespace Go.Proofs.YtadlnmckcnfacaaGreat
open Go.RowKit Go.Rt
theorem set_getD (L : List Int) (j : Nat) (d : Int) (i : Nat) : (L.set j d)[i]?.getD 0 = if i = j ∧ j < L.length then d else L[i]?.getD 0 := by
 rw [List.getElem?_set]
 by_cases h : j = i
 ·subst h
  by_cases h2 : j < L.length
  ·simp [h2]
  ·simp [h2]
 ·rw [if_neg h, if_neg (fun h2 => h h2.1.symm)]
theorem times_step {B i k x y c l r q V0 VY : Nat} {L : List Int} (hV : valB B L + B ^ (i + k) * c = V0 + B ^ i * (x * VY)) (hj : i + k < L.length) (hl : L[i + k]?.getD 0 = (l : Int)) (hs : c + l + x * y = r + B * q) :
  valB B (L.set (i + k) (r : Int)) + B ^ (i + (k + 1)) * q = V0 + B ^ i * (x * (VY + B ^ k * y)) := by
 have h1 := valB_set (B := B) L (i + k) l r hj hl
 have h2 : B ^ (i + k) * (c + l + x * y) = B ^ (i + k) * (r + B * q) := by rw [hs]
 rw [Nat.mul_add, Nat.mul_add, Nat.mul_add] at h2
 rw [show i + (k + 1) = i + k + 1 by omega, Nat.pow_succ, Nat.mul_add x, Nat.mul_add (B ^ i)]
 have h3 : B ^ i * (x * (B ^ k * y)) = B ^ (i + k) * (x * y) := by rw [Nat.pow_add, Nat.mul_assoc, Nat.mul_left_comm x]
 rw [h3, Nat.mul_assoc]
 omega
set_option maxHeartbeats 8000000 in
set_option maxRecDepth 100000 in
theorem ntimes_any (a b : Option Addr) (c d m n : Nat) (w : World) (h : NAt w w.heap.size a c m) (h' : NAt w w.heap.size b d n) (hm : (dig 18446744073709551616 m).length ≤ 1000000) (hn : (dig 18446744073709551616 n).length ≤ 1000000)  :
  Calls Tryz.prog 59 #[.slice a (dig 18446744073709551616 m).length c, .slice b (dig 18446744073709551616 n).length d] w (RetN w (m * n)) := by
 have h1 := fun w' (hb : Below w.heap.size w w') => Lib.hid (halves_any a c m w' (h.next hb) (by omega))
 have h2 := fun w' (hb : Below w.heap.size w w') => Lib.hid (halves_any b d n w' (h'.next hb) (by omega))
 clear h h'
 have k1 := dig32_len m
 have k2 := dig32_len n
 go_enter Tryz.func59, Tryz.ntmps59
 go_upto_region 3 with (first | (go_at_call_of 87 a; refine (h1 w (Below.refl _ _)).out.mono ?_; rintro e w1 ⟨ax, cx, rfl, hX, hb1⟩; have HX1 := Lib.hid hX; have HB1 := Lib.hid hb1; clear hX hb1) | (go_at_call_of 87 b; refine (h2 _ HB1.out).out.mono ?_; rintro e w2 ⟨ay, cy, rfl, hY, hb2⟩; have HY2 := Lib.hid hY; have HB2 := Lib.hid hb2; clear hY hb2))
 have HX2 := Lib.hid (HX1.out.next HB2.out)
 have HBW := Lib.hid (HB1.out.trans (HB2.out.mono HB1.out.size))
 clear HX1 HB1 HB2
 obtain ⟨X, hXe⟩ : ∃ X, dig 4294967296 m = X := ⟨_, rfl⟩
 obtain ⟨Y, hYe⟩ : ∃ Y, dig 4294967296 n = Y := ⟨_, rfl⟩
 have rX : Rng 4294967296 X := by rw [← hXe]; exact dig_rng (by decide) _
 have rY : Rng 4294967296 Y := by rw [← hYe]; exact dig_rng (by decide) _
 have vX : valB 4294967296 X = m := by rw [← hXe]; exact val_dig (by decide) _
 have vY : valB 4294967296 Y = n := by rw [← hYe]; exact val_dig (by decide) _
 have HcX := Lib.hid HX2.out.li
 have HcY := Lib.hid HY2.out.li
 rw [hXe] at HcX
 rw [hYe] at HcY
 rw [hXe] at k1 ⊢
 rw [hYe] at k2 ⊢
 have RX := Lib.hid rX
 have RY := Lib.hid rY
 have VX := Lib.hid vX
 have VY := Lib.hid vY
 have HXE := Lib.hid hXe
 have HYE := Lib.hid hYe
 clear hXe hYe rX rY vX vY HX2 HY2 h1 h2
 have hlX : X.length ≤ 2000000 := by omega
 have hlY : Y.length ≤ 2000000 := by omega
 clear k1 k2
 have hmk := make_u32 (X.length + Y.length) (by omega)
 obtain ⟨N, hN⟩ : ∃ N : Nat, X.length + Y.length = N := ⟨_, rfl⟩
 have hNb : N ≤ 4000000 := by omega
 have eN : ∀ [Inhabited Unit], (X.length : Int) + (Y.length : Int) = (N : Int) := by intro _; omega
 have eN2 : ∀ [Inhabited Unit], RowKit.wrap64 (N : Int) = (N : Int) := by intro _; exact IntWalk.wrap64_in _ ⟨by omega, by omega⟩
 rw [hN] at hmk
 go_wp2_with fail
 clear hmk eN eN2
 have HNN := Lib.hid hN
 clear hN
 have row := World.ownsRow_lit (base := w2.heap.size) (e := 138) (size := 1) w2 (madeCells #[Value.int .u32 0] N) N (Nat.le_refl _) (by unfold maxLen; omega) (by rw [size_madeCells, Nat.mul_one])
 rw [made_zeros] at row
 have bel0 : Below w2.heap.size w2 (w2.alloc (.cells (madeCells #[Value.int .u32 0] N) 138)) := (Below.refl _ _).alloc (Nat.le_refl _) _
 go_loopw [8] (fun iv wr => ∃ (i : Nat) (L : List Int), i ≤ X.length ∧ iv = .int .i64 i ∧ Hid (Rng 4294967296 L) ∧ Hid (valB 4294967296 L = valB 4294967296 (X.take i) * n) ∧ Hid (∀ j : Nat, i + Y.length ≤ j → L[j]?.getD 0 = 0) ∧ Hid (wr.ownsRow w2.heap.size 138 1 (.slice (some ⟨w2.heap.size, 0, none⟩) N N) N (L.map (Value.int .u32))) ∧ Hid (Below w2.heap.size w2 wr)) (fun iv _ => X.length - (intOf iv).toNat)
 case atStart => exact ⟨0, List.replicate N 0, Nat.zero_le _, rfl, Lib.hid (fun x hx => by rw [(List.mem_replicate.1 hx).2]; omega), Lib.hid (by simp [valB_zeros, valB]), Lib.hid (fun j _ => by rw [List.getElem?_replicate]; split <;> rfl), Lib.hid row, Lib.hid bel0⟩
 case round =>
  clear row bel0
  obtain ⟨i, L, hi, rfl, HR, HV, HZ, HO, HB⟩ := hrel
  obtain ⟨wa, rfl⟩ : ∃ wa : World, wa = wr := ⟨_, rfl⟩
  have HLL := Lib.hid (own_len_k HO.out)
  by_cases hx : i < X.length
  ·have dX := RX.out.getD (by decide) i
   obtain ⟨x, ex⟩ : ∃ d : Nat, X[i]?.getD 0 = (d : Int) := ⟨(X[i]?.getD 0).toNat, by omega⟩
   obtain ⟨bX, oX, ex2, hlb, cX0⟩ := HcX.out.cell i hx
   rw [ex] at cX0 dX
   subst ex2
   have ix : (i : Int) < (X.length : Int) := by omega
   have i0 : (0 : Int) ≤ (i : Int) := by omega
   have HEX := Lib.hid ex
   clear ex
   have HCX := Lib.hid cX0
   clear cX0
   go_wp2_with fail
   go_loopw [10, 9] (fun kv cv wr => ∃ (k c : Nat) (M : List Int), k ≤ Y.length ∧ kv = .int .i64 k ∧ cv = .int .u64 c ∧ c < 4294967296 ∧ Hid (Rng 4294967296 M) ∧ Hid (valB 4294967296 M + 4294967296 ^ (i + k) * c = valB 4294967296 L + 4294967296 ^ i * (x * valB 4294967296 (Y.take k))) ∧ Hid (∀ j : Nat, i + k ≤ j → M[j]?.getD 0 = L[j]?.getD 0) ∧ Hid (wr.ownsRow w2.heap.size 138 1 (.slice (some ⟨w2.heap.size, 0, none⟩) N N) N (M.map (Value.int .u32))) ∧ Hid (Below w2.heap.size w2 wr)) (fun kv _ _ => Y.length - (intOf kv).toNat)
   case atStart => exact ⟨0, 0, L, Nat.zero_le _, rfl, rfl, by omega, HR, Lib.hid (by simp [valB]), Lib.hid (fun _ _ => rfl), HO, HB⟩
   case round =>
    obtain ⟨k, c0, M, hk, rfl, rfl, hc, HR1, HV1, HZ1, HO1, HB1⟩ := hrel
    obtain ⟨wb, rfl⟩ : ∃ wb : World, wb = wr := ⟨_, rfl⟩
    have HLM := Lib.hid (own_len_k HO1.out)
    clear HO HB
    have cX := (HB1.out.cell (p := ⟨bX, oX + i, none⟩) hlb).trans HCX.out
    by_cases hy : k < Y.length
    ·have dY := RY.out.getD (by decide) k
     obtain ⟨y, ey⟩ : ∃ d : Nat, Y[k]?.getD 0 = (d : Int) := ⟨(Y[k]?.getD 0).toNat, by omega⟩
     obtain ⟨bY, oY, ey2, hlb2, cY⟩ := HcY.out.cell k hy
     rw [ey] at cY dY
     replace cY := (HB1.out.cell (p := ⟨bY, oY + k, none⟩) hlb2).trans cY
     subst ey2
     have iy : (k : Int) < (Y.length : Int) := by omega
     have k0 : (0 : Int) ≤ (k : Int) := by omega
     obtain ⟨ik, hik⟩ : ∃ ik : Nat, ik = i + k := ⟨_, rfl⟩
     have hikN : ik < N := by have := HNN.out; omega
     have q1 : ∀ [Inhabited Unit], (i : Int) + (k : Int) = (ik : Int) := by intro _; omega
     have q2 : ∀ [Inhabited Unit], IntKind.i64.wrap (ik : Int) = (ik : Int) := by intro _; rw [IntWalk.i64_left]; exact IntWalk.wrap64_in _ ⟨by omega, by omega⟩
     have q3 : ∀ [Inhabited Unit], RowKit.wrap64 (ik : Int) = (ik : Int) := by intro _; exact IntWalk.wrap64_in _ ⟨by omega, by omega⟩
     have iN : (ik : Int) < (N : Int) := by omega
     have ik0 : (0 : Int) ≤ (ik : Int) := by omega
     have dM := HR1.out.getD (by decide) ik
     obtain ⟨l, el⟩ : ∃ d : Nat, M[ik]?.getD 0 = (d : Int) := ⟨(M[ik]?.getD 0).toNat, by omega⟩
     rw [el] at dM
     have cM := own_cell HO1.out hikN
     rw [el] at cM
     have fM := HO1.out.frozenAt ik
     obtain ⟨p, hp⟩ : ∃ p : Nat, p = x * y := ⟨_, rfl⟩
     have hp2 : p ≤ 18446744065119617025 := by rw [hp]; exact Nat.mul_le_mul (show x ≤ 4294967295 by omega) (show y ≤ 4294967295 by omega)
     obtain ⟨s1, hs1⟩ : ∃ s1 : Nat, s1 = c0 + l := ⟨_, rfl⟩
     obtain ⟨S, hS⟩ : ∃ S : Nat, S = s1 + p := ⟨_, rfl⟩
     have hSb : S < 18446744073709551616 := by omega
     have h1b : s1 < 18446744073709551616 := by omega
     have hpb : p < 18446744073709551616 := by omega
     have r1 : ∀ [Inhabited Unit], (c0 : Int) + (l : Int) = (s1 : Int) := by intro _; omega
     have r2 : ∀ [Inhabited Unit], (x : Int) * (y : Int) = (p : Int) := by intro _; rw [hp, Int.natCast_mul]
     have r3 : ∀ [Inhabited Unit], (s1 : Int) + (p : Int) = (S : Int) := by intro _; omega
     have r4 : ∀ [Inhabited Unit], IntKind.u64.wrap (s1 : Int) = (s1 : Int) := by intro _; exact u64_same _ (by omega) (by omega)
     have r5 : ∀ [Inhabited Unit], IntKind.u64.wrap (p : Int) = (p : Int) := by intro _; exact u64_same _ (by omega) (by omega)
     have r6 : ∀ [Inhabited Unit], IntKind.u64.wrap (S : Int) = (S : Int) := by intro _; exact u64_same _ (by omega) (by omega)
     obtain ⟨r, hr⟩ : ∃ r : Nat, r = S % 4294967296 := ⟨_, rfl⟩
     obtain ⟨q, hq⟩ : ∃ q : Nat, q = S / 4294967296 := ⟨_, rfl⟩
     have r7 : ∀ [Inhabited Unit], IntKind.u32.wrap (S : Int) = (r : Int) := by intro _; rw [IntKind.wrap_u32]; omega
     have r8 : ∀ [Inhabited Unit], (S : Int) / 4294967296 = (q : Int) := by intro _; omega
     have hq2 : q < 4294967296 := by omega
     have hr2 : r < 4294967296 := by omega
     have hst := times_step (y := y) (r := r) (q := q) HV1.out (by rw [HLM.out, ← hik]; exact hikN) (by rw [← hik]; exact el) (by omega)
     have t1 := valB_take_succ' 4294967296 Y k
     rw [ey, Int.toNat_natCast] at t1
     rw [← t1, ← hik] at hst
     have HV2 := Lib.hid hst
     have HR2 := Lib.hid (HR1.out.set ik r hr2)
     have HZ2 : Hid (∀ j : Nat, i + (k + 1) ≤ j → (M.set ik (r : Int))[j]?.getD 0 = L[j]?.getD 0) := Lib.hid (fun j hj => by rw [set_getD, if_neg (by omega)]; exact HZ1.out j (by omega))
     clear hst t1 hp hs1 hS hr hq ey el HLM hik
     go_upto_region 11 with fail
     go_quiet (fail)
     have HO2 := Lib.hid (stored_u32 (L := M) (show (wb.drewN nq).ownsRow w2.heap.size 138 1 (.slice (some ⟨w2.heap.size, 0, none⟩) N N) N (M.map (Value.int .u32)) from HO1.out) ik (r : Int))
     have HB2 : Hid (Below w2.heap.size w2 ((wb.drewN nq).setCell ⟨w2.heap.size, ik, none⟩ (.int .u32 (r : Int)))) := Lib.hid (Below.setCell (HB1.out.trans ((below_drewN0 wb nq).mono HB1.out.size)) (Nat.le_refl _) _)
     go_wp2
     go_roundw
     case rel => exact ⟨k + 1, q, _, by omega, by go_num, rfl, hq2, HR2, HV2, HZ2, HO2, HB2⟩
     case measure => simp [intOf]; omega
    ·have iy : ¬ (k : Int) < (Y.length : Int) := by omega
     have hke : k = Y.length := by omega
     obtain ⟨ik, hik⟩ : ∃ ik : Nat, ik = i + Y.length := ⟨_, rfl⟩
     have hikN : ik < N := by have := HNN.out; omega
     have q1 : ∀ [Inhabited Unit], (i : Int) + (Y.length : Int) = (ik : Int) := by intro _; omega
     have q3 : ∀ [Inhabited Unit], RowKit.wrap64 (ik : Int) = (ik : Int) := by intro _; exact IntWalk.wrap64_in _ ⟨by omega, by omega⟩
     have iN : (ik : Int) < (N : Int) := by omega
     have ik0 : (0 : Int) ≤ (ik : Int) := by omega
     have fM := HO1.out.frozenAt ik
     have cM := own_cell HO1.out hikN
     have hz : M[ik]?.getD 0 = ((0 : Nat) : Int) := by rw [HZ1.out ik (by omega), HZ.out ik (by omega)]; rfl
     have hz2 : M[ik]?.getD 0 = 0 := by rw [hz]; rfl
     rw [hz2] at cM
     have hv := HV1.out
     rw [hke, List.take_length, VY.out, ← hik] at hv
     have hset := valB_set (B := 4294967296) M ik 0 c0 (by rw [HLM.out]; exact hikN) hz
     rw [Nat.mul_zero, Nat.add_zero] at hset
     have t1 := valB_take_succ' 4294967296 X i
     rw [HEX.out, Int.toNat_natCast] at t1
     have hv2 : valB 4294967296 (M.set ik (c0 : Int)) = valB 4294967296 (X.take (i + 1)) * n := by rw [hset, hv, HV.out, t1, Nat.add_mul, Nat.mul_assoc]
     have HV2 := Lib.hid hv2
     have HR2 := Lib.hid (HR1.out.set ik c0 hc)
     have HZ2 : Hid (∀ j : Nat, i + 1 + Y.length ≤ j → (M.set ik (c0 : Int))[j]?.getD 0 = 0) := Lib.hid (fun j hj => by rw [set_getD, if_neg (by omega), HZ1.out j (by omega)]; exact HZ.out j (by omega))
     have eC : ∀ [Inhabited Unit], IntKind.u32.wrap (c0 : Int) = (c0 : Int) := by intro _; rw [IntKind.wrap_u32]; omega
     have HO2 := Lib.hid (stored_u32 HO1.out ik (c0 : Int))
     have HB2 : Hid (Below w2.heap.size w2 (wb.setCell ⟨w2.heap.size, ik, none⟩ (.int .u32 (c0 : Int)))) := Lib.hid (Below.setCell HB1.out (Nat.le_refl _) _)
     clear hv hv2 hset t1 hz hz2 hke hy hik
     go_wp2
     go_roundw
     case rel => exact ⟨i + 1, _, by omega, by go_num, HR2, HV2, HZ2, HO2, HB2⟩
     case measure => simp [intOf]; omega
  ·have ix : ¬ (i : Int) < (X.length : Int) := by omega
   have hv := HV.out
   rw [List.take_of_length_le (by omega), VX.out] at hv
   have HV3 := Lib.hid hv
   clear hv hx
   (have hown1 := HO.out; obtain ⟨a4, c4, he, hI⟩ := own_ints hown1 (fun x hx => by have := HR.out x hx; exact wf_u32_iff.2 ⟨by omega, by omega⟩); injection he with e1 e2 e3; clear e2; subst e1; subst e3; have HCP := Lib.hid (own_cap1 hown1); have HCQ : Hid (L.length ≤ N ∧ N ≤ 9223372036854775807) := Lib.hid (by rw [HLL.out]; exact HCP.out); have HI := Lib.hid hI; have HC := Lib.hid (cut_any (some ⟨w2.heap.size, 0, none⟩) N wa.heap.size _ wa hI HCQ.out.1 HCQ.out.2); rw [HV3.out, HLL.out] at HC; have HD := Lib.hid (dig_of_ints HI.out HCQ.out); rw [HV3.out] at HD; have HW := Lib.hid (nwhole_any (some ⟨w2.heap.size, 0, none⟩) N (m * n) wa HD.out (by have e := dig_is_take (B := 4294967296) (by decide) HR.out; rw [HV3.out] at e; have e2 := congrArg List.length e; rw [List.length_take, HLL.out] at e2; omega)); clear hown1 hI HD HI)
   go_wp2_with (first | (go_at_call 89; refine HC.out.mono ?_; rintro e w4 ⟨rfl, rfl⟩) | (go_at_call 88; refine HW.out.mono ?_; rintro e w5 ⟨a5, c5, rfl, hN, hb5⟩; have HN := Lib.hid hN; have HB5 := Lib.hid hb5; clear hN hb5))
   go_ret
   exact ⟨a5, c5, rfl, HN.out, (HBW.out.trans (HB.out.mono HBW.out.size)).trans (HB5.out.mono (Nat.le_trans HBW.out.size HB.out.size))⟩
theorem sgnZ_not (z : Int) : sgnZ (!decide (z < 0)) z.natAbs = -z := by
 unfold sgnZ
 by_cases h : z < 0
 ·simp [h]; omega
 ·simp [h]; omega
theorem sgnZ_mul (x y : Int) : sgnZ (decide (x < 0) != decide (y < 0)) (x.natAbs * y.natAbs) = x * y := by
 obtain ⟨m, hm⟩ : ∃ m : Nat, x.natAbs = m := ⟨_, rfl⟩
 obtain ⟨n, hn⟩ : ∃ n : Nat, y.natAbs = n := ⟨_, rfl⟩
 unfold sgnZ
 rw [hm, hn, Int.natCast_mul]
 by_cases h1 : x < 0
 ·have ex : x = -(m : Int) := by omega
  by_cases h2 : y < 0
  ·have ey : y = -(n : Int) := by omega
   have e : x * y = (m : Int) * n := by rw [ex, ey, Int.neg_mul_neg]
   rw [e, decide_eq_true h1, decide_eq_true h2]
   simp
  ·have ey : y = (n : Int) := by omega
   have e : x * y = -((m : Int) * n) := by rw [ex, ey, Int.neg_mul]
   rw [e, decide_eq_true h1, decide_eq_false h2]
   simp
 ·have ex : x = (m : Int) := by omega
  by_cases h2 : y < 0
  ·have ey : y = -(n : Int) := by omega
   have e : x * y = -((m : Int) * n) := by rw [ex, ey, Int.mul_neg]
   rw [e, decide_eq_false h1, decide_eq_true h2]
   simp
  ·have ey : y = (n : Int) := by omega
   have e : x * y = (m : Int) * n := by rw [ex, ey]
   rw [e, decide_eq_false h1, decide_eq_false h2]
   simp
set_option maxHeartbeats 1000000 in
theorem zneg_any (a : Option Addr) (c : Nat) (x : Int) (w : World) (h : NAt w w.heap.size a c x.natAbs) : Calls Tryz.prog 121 #[.agg #[.bool (decide (x < 0)), .slice a (dig 18446744073709551616 x.natAbs).length c]] w (RetZ w (-x)) := by
 have HM := fun w' (hb : Below w.heap.size w w') => Lib.hid (made_any (!decide (x < 0)) a c x.natAbs w' (h.next hb))
 rw [sgnZ_not] at HM
 clear h
 generalize decide (x < 0) = s at *
 generalize dig 18446744073709551616 x.natAbs = X at *
 go_enter Tryz.func121, Tryz.ntmps121
 go_wp2_with (first | (go_at_call 55; refine (HM _ (by (repeat' (first | exact Below.refl _ _ | refine Below.drew ?_ | refine Below.setCell ?_ (by first | omega | (simp <;> omega)) _ | refine Below.alloc ?_ (by first | omega | (simp <;> omega)) _)))).out.mono ?_; rintro e w3 ⟨a3, c3, rfl, hN3, hb3⟩; have HN3 := Lib.hid hN3; have HB3 := Lib.hid hb3; have X3 := NBox2.below (b := w.heap.size + 1) (v0 := .bool false) (v1 := .slice none 0 0) (by constructor <;> go_simp) hb3 (by first | omega | (simp <;> omega)); obtain ⟨x0, x1, x2, x3⟩ := X3; have hs3 := hb3.size; (try simp at hs3); clear hN3 hb3))
 refine bodyPost_ret (v := .agg #[.bool (decide ((-x) < 0)), .slice a3 (dig 18446744073709551616 (-x).natAbs).length c3]) (by rw [nres_c1 rfl]; go_simp) rfl ?_
 exact retZ_box (by omega) HN3.out ⟨x0, x1, x2, x3⟩ (by intro z h; cases h) (by intro z h; cases h) (Below.trans (by (repeat' (first | exact Below.refl _ _ | refine Below.drew ?_ | refine Below.setCell ?_ (by first | omega | (simp <;> omega)) _ | refine Below.alloc ?_ (by first | omega | (simp <;> omega)) _))) (HB3.out.mono (by first | omega | (simp <;> omega)))) _ _
set_option maxHeartbeats 4000000 in
set_option maxRecDepth 100000 in
theorem ztimes_any (a b : Option Addr) (c d : Nat) (x y : Int) (w : World) (h : NAt w w.heap.size a c x.natAbs) (h' : NAt w w.heap.size b d y.natAbs) (hx : (dig 18446744073709551616 x.natAbs).length ≤ 1000000) (hy : (dig 18446744073709551616 y.natAbs).length ≤ 1000000) :
  Calls Tryz.prog 25 #[.agg #[.bool (decide (x < 0)), .slice a (dig 18446744073709551616 x.natAbs).length c], .agg #[.bool (decide (y < 0)), .slice b (dig 18446744073709551616 y.natAbs).length d]] w (RetZ w (x * y)) := by
 have HT := fun w' (hb : Below w.heap.size w w') => Lib.hid (ntimes_any a b c d x.natAbs y.natAbs w' (h.next hb) (h'.next hb) hx hy)
 have EZ := Lib.hid (sgnZ_mul x y)
 have EM := Lib.hid (show (x * y).natAbs = x.natAbs * y.natAbs from Int.natAbs_mul x y)
 clear h h'
 generalize decide (x < 0) = s at *
 generalize decide (y < 0) = t at *
 generalize dig 18446744073709551616 x.natAbs = X at *
 generalize dig 18446744073709551616 y.natAbs = Y at *
 go_enter Tryz.func25, Tryz.ntmps25
 go_upto_region 1 with fail
 refine wp_region_held_drew (S := (fun w' => Below w.heap.size w w' ∧ w'.cell? ⟨w.heap.size, 0, none⟩ = some (.bool s) ∧ w'.cell? ⟨w.heap.size, 1, none⟩ = some (.slice a X.length c) ∧ w'.cell? ⟨w.heap.size + 1, 0, none⟩ = some (.bool t) ∧ w'.cell? ⟨w.heap.size + 1, 1, none⟩ = some (.slice b Y.length d))) (by kernel_rfl) (⟨(by (repeat' (first | exact Below.refl _ _ | refine Below.drew ?_ | refine Below.setCell ?_ (by first | omega | (simp <;> omega)) _ | refine Below.alloc ?_ (by first | omega | (simp <;> omega)) _))), by go_simp, by go_simp, by go_simp, by go_simp⟩) (fun hHeld => ?_)
 refine takeY (i := 0) (dst := (some 5)) (v := ?_) rfl rfl (by kernel_rfl) (by kernel_rfl) (by kernel_rfl) (fun _ _ _ h => h) (by rfl) ?hy1w0 (by assumption) ?rest1w0
 case hy1w0 => (intro w hSw; (try dsimp only at hSw); go_simp; (try with_reducible rfl))
 refine takeY (i := 1) (dst := (some 6)) (v := ?_) rfl rfl (by kernel_rfl) (by kernel_rfl) (by kernel_rfl) (fun _ _ _ h => h) (by rfl) ?hy1w1 (by assumption) ?rest1w1
 case hy1w1 => (intro w hSw; (try dsimp only at hSw); go_simp; (try with_reducible rfl))
 refine takeY (i := 2) (dst := (some 7)) (v := ?_) rfl rfl (by kernel_rfl) (by kernel_rfl) (by kernel_rfl) (fun _ _ _ h => h) (by rfl) ?hy1w2 (by assumption) ?rest1w2
 case hy1w2 => (intro w hSw; (try dsimp only at hSw); go_simp; (try with_reducible rfl))
 refine takeY (i := 3) (dst := (some 8)) (v := ?_) rfl rfl (by kernel_rfl) (by kernel_rfl) (by kernel_rfl) (fun _ _ _ h => h) (by rfl) ?hy1w3 (by assumption) ?rest1w3
 case hy1w3 => (intro w hSw; (try dsimp only at hSw); go_simp; (try with_reducible rfl))
 refine takeY (i := 4) (dst := (some 9)) (v := ?_) rfl rfl (by kernel_rfl) (by kernel_rfl) (by kernel_rfl) (fun _ _ _ h => h) (by rfl) ?hy1w4 (by assumption) ?rest1w4
 case hy1w4 => (intro w hSw; (try dsimp only at hSw); go_simp; (try with_reducible rfl))
 refine takeY (i := 5) (dst := (some 10)) (v := ?_) rfl rfl (by kernel_rfl) (by kernel_rfl) (by kernel_rfl) (fun _ _ _ h => h) (by rfl) ?hy1w5 (by assumption) ?rest1w5
 case hy1w5 => (intro w hSw; (try dsimp only at hSw); go_simp; (try with_reducible rfl))
 refine takeY (i := 6) (dst := (some 11)) (v := ?_) rfl rfl (by kernel_rfl) (by kernel_rfl) (by kernel_rfl) (fun _ _ _ h => h) (by rfl) ?hy1w6 (by assumption) ?rest1w6
 case hy1w6 => (intro w hSw; (try dsimp only at hSw); go_simp; (try with_reducible rfl))
 refine takeY (i := 7) (dst := (some 12)) (v := ?_) rfl rfl (by kernel_rfl) (by kernel_rfl) (by kernel_rfl) (fun _ _ _ h => h) (by rfl) ?hy1w7 (by assumption) ?rest1w7
 case hy1w7 => (intro w hSw; (try dsimp only at hSw); go_simp; (try with_reducible rfl))
 refine takeY (i := 8) (dst := (some 13)) (v := ?_) rfl rfl (by kernel_rfl) (by kernel_rfl) (by kernel_rfl) (fun _ _ _ h => h) (by rfl) ?hy1w8 (by assumption) ?rest1w8
 case hy1w8 => (intro w hSw; (try dsimp only at hSw); go_simp; (try with_reducible rfl))
 refine wpAnyH_ready (rs := [9]) (by kernel_rfl) (by simp) (AllReadyH.cons rfl (fun K hK => ?_) AllReadyH.nil)
 go_simp
 (go_at_call 59; refine (HT _ (heldZ1 (by assumption))).out.mono ?_; rintro e w5 ⟨a5, c5, rfl, hN5, hb5⟩; have X5 := NBox2.below (b := w.heap.size + 1 + 1) (v0 := .bool false) (v1 := .slice none 0 0) (by constructor <;> go_simp) hb5 (by first | omega | (simp <;> omega)); have hs5 := hb5.size; (try simp at hs5); have HM := made_any (s != t) a5 c5 _ w5 hN5; rw [EZ.out] at HM; have HM2 := Lib.hid HM; clear HM hN5)
 (try go_wp2_with fail)
 refine hK.out _ _ (heldZ4 (by assumption) (by assumption)) (fun hHeld => ?_)
 clear hK K
 refine wpAnyH_ready (rs := [10]) (by kernel_rfl) (by simp) (AllReadyH.cons rfl (fun K hK => ?_) AllReadyH.nil)
 go_simp
 (go_at_call 55; refine HM2.out.mono ?_; rintro e w6 ⟨a6, c6, rfl, hN6, hb6⟩; have HN6 := Lib.hid hN6; have X6 := X5.below hb6 (by first | omega | (simp <;> omega)); have hs6 := hb6.size; clear hN6 X5; have HX6 := Lib.hid X6; obtain ⟨x0, x1, x2, x3⟩ := X6)
 (try go_wp2_with fail)
 refine hK.out _ _ (heldZ4 (by assumption) (by assumption)) (fun hHeld => ?_)
 clear hK K
 refine wpAnyH_ready (rs := [11]) (by kernel_rfl) (by simp) (AllReadyH.cons rfl (fun K hK => ?_) AllReadyH.nil)
 go_simp
 skip
 (try go_wp2_with fail)
 refine hK.out _ _ (heldZset (by assumption) (by omega) (by omega) (by omega)) (fun hHeld => ?_)
 clear hK K
 refine wpAnyH_done (by kernel_rfl) ?_ _
 go_wp2_with fail
 refine bodyPost_ret (v := .agg #[.bool (decide ((x * y) < 0)), .slice a6 (dig 18446744073709551616 (x * y).natAbs).length c6]) (by rw [nres_c1 rfl]; go_simp) rfl ?_
 exact retZ_box (by omega) HN6.out HX6.out (by intro z h; cases h) (by intro z h; cases h) (Below.trans (Below.trans (by (repeat' (first | exact Below.refl _ _ | refine Below.drew ?_ | refine Below.setCell ?_ (by first | omega | (simp <;> omega)) _ | refine Below.alloc ?_ (by first | omega | (simp <;> omega)) _))) (hb5.mono (by first | omega | (simp <;> omega)))) (hb6.mono (by first | omega | (simp <;> omega)))) _ _
set_option maxHeartbeats 4000000 in
set_option maxRecDepth 100000 in
theorem zless_any (a b : Option Addr) (c d : Nat) (x y z : Int) (w : World) (h : NAt w w.heap.size a c x.natAbs) (h' : NAt w w.heap.size b d y.natAbs) (hx : (dig 18446744073709551616 x.natAbs).length ≤ 1000000) (hy : (dig 18446744073709551616 y.natAbs).length ≤ 1000000) (hz : x - y = z) :
  Calls Tryz.prog 115 #[.agg #[.bool (decide (x < 0)), .slice a (dig 18446744073709551616 x.natAbs).length c], .agg #[.bool (decide (y < 0)), .slice b (dig 18446744073709551616 y.natAbs).length d]] w (RetZ w z) := by
 obtain ⟨y', hy'⟩ : ∃ y', -y = y' := ⟨_, rfl⟩
 have hab : y'.natAbs = y.natAbs := by rw [← hy']; exact Int.natAbs_neg _
 have HG := fun w' (hb : Below w.heap.size w w') => Lib.hid (zneg_any b d y w' (h'.next hb))
 rw [hy'] at HG
 have HP := fun a5 c5 w' (hb : Below w.heap.size w w') (h5 : NAt w' w'.heap.size a5 c5 y'.natAbs) => zplus_any a a5 c c5 x y' z w' (h.next hb) h5 hx (by rw [hab]; exact hy) (by omega)
 clear h h' hz hab hy'
 generalize decide (x < 0) = s at *
 generalize decide (y < 0) = t at *
 generalize dig 18446744073709551616 x.natAbs = X at *
 generalize dig 18446744073709551616 y.natAbs = Y at *
 go_enter Tryz.func115, Tryz.ntmps115
 go_upto_region 1 with fail
 refine wp_region_held_drew (S := (fun w' => Below w.heap.size w w' ∧ w'.cell? ⟨w.heap.size, 0, none⟩ = some (.bool s) ∧ w'.cell? ⟨w.heap.size, 1, none⟩ = some (.slice a X.length c) ∧ w'.cell? ⟨w.heap.size + 1, 0, none⟩ = some (.bool t) ∧ w'.cell? ⟨w.heap.size + 1, 1, none⟩ = some (.slice b Y.length d))) (by kernel_rfl) (⟨(by (repeat' (first | exact Below.refl _ _ | refine Below.drew ?_ | refine Below.setCell ?_ (by first | omega | (simp <;> omega)) _ | refine Below.alloc ?_ (by first | omega | (simp <;> omega)) _))), by go_simp, by go_simp, by go_simp, by go_simp⟩) (fun hHeld => ?_)
 refine takeY (i := 0) (dst := (some 5)) (v := ?_) rfl rfl (by kernel_rfl) (by kernel_rfl) (by kernel_rfl) (fun _ _ _ h => h) (by rfl) ?hy2w0 (by assumption) ?rest2w0
 case hy2w0 => (intro w hSw; (try dsimp only at hSw); go_simp; (try with_reducible rfl))
 refine takeY (i := 1) (dst := (some 6)) (v := ?_) rfl rfl (by kernel_rfl) (by kernel_rfl) (by kernel_rfl) (fun _ _ _ h => h) (by rfl) ?hy2w1 (by assumption) ?rest2w1
 case hy2w1 => (intro w hSw; (try dsimp only at hSw); go_simp; (try with_reducible rfl))
 refine wpAnyH_ready (rs := [2]) (by kernel_rfl) (by simp) (AllReadyH.cons rfl (fun K hK => ?_) AllReadyH.nil)
 go_simp
 (go_at_call 121; refine (HG _ (heldZ1 (by assumption))).out.mono ?_; rintro e w5 ⟨a5, c5, rfl, hN5, hb5⟩; have X5 := NBox2.below (b := w.heap.size + 1 + 1) (v0 := .bool false) (v1 := .slice none 0 0) (by constructor <;> go_simp) hb5 (by first | omega | (simp <;> omega)); have hs5 := hb5.size; (try simp at hs5); have hBw : Below w.heap.size w w5 := (heldZ1 hHeld).trans (hb5.mono (heldZ1 hHeld).size); have HM := Lib.hid (HP a5 c5 w5 hBw hN5); clear hN5 hBw)
 (try go_wp2_with fail)
 refine hK.out _ _ (heldZ4 (by assumption) (by assumption)) (fun hHeld => ?_)
 clear hK K
 refine wpAnyH_ready (rs := [3]) (by kernel_rfl) (by simp) (AllReadyH.cons rfl (fun K hK => ?_) AllReadyH.nil)
 go_simp
 (go_at_call 24; refine HM.out.mono ?_; rintro e w6 ⟨a6, c6, rfl, hN6, hb6⟩; have HN6 := Lib.hid hN6; have X6 := X5.below hb6 (by first | omega | (simp <;> omega)); have hs6 := hb6.size; clear hN6 X5 HM; have HX6 := Lib.hid X6; obtain ⟨x0, x1, x2, x3⟩ := X6)
 (try go_wp2_with fail)
 refine hK.out _ _ (heldZ4 (by assumption) (by assumption)) (fun hHeld => ?_)
 clear hK K
 refine wpAnyH_ready (rs := [4]) (by kernel_rfl) (by simp) (AllReadyH.cons rfl (fun K hK => ?_) AllReadyH.nil)
 go_simp
 skip
 (try go_wp2_with fail)
 refine hK.out _ _ (heldZset (by assumption) (by omega) (by omega) (by omega)) (fun hHeld => ?_)
 clear hK K
 refine wpAnyH_done (by kernel_rfl) ?_ _
 go_wp2_with fail
 refine bodyPost_ret (v := .agg #[.bool (decide ((z) < 0)), .slice a6 (dig 18446744073709551616 (z).natAbs).length c6]) (by rw [nres_c1 rfl]; go_simp) rfl ?_
 exact retZ_box (by omega) HN6.out HX6.out (by intro z h; cases h) (by intro z h; cases h) (Below.trans (Below.trans (by (repeat' (first | exact Below.refl _ _ | refine Below.drew ?_ | refine Below.setCell ?_ (by first | omega | (simp <;> omega)) _ | refine Below.alloc ?_ (by first | omega | (simp <;> omega)) _))) (hb5.mono (by first | omega | (simp <;> omega)))) (hb6.mono (by first | omega | (simp <;> omega)))) _ _
def IsZ (z : Int) (u : Value) (w : World) : Prop := ∃ a c, u = .agg #[.bool (decide (z < 0)), .slice a (dig 18446744073709551616 z.natAbs).length c] ∧ NAt w w.heap.size a c z.natAbs
theorem isZ_carries (z : Int) : Carries (IsZ z) := fun _ _ _ ⟨a, c, h, hN⟩ hb => ⟨a, c, h, hN.next hb⟩
theorem nres_cc {fn : Func} {p q : Tmp} {ty ty2 : TypeId} (h : fn.results = #[.cell p ty, .cell q ty2]) (tmps : Array Value) (P : Program) (w : World) :
  (results fn tmps).run P w = ((asAddr (tmps.getD p undef)).run P w).andThen fun a w₁ => ((loadVar ty a).run P w₁).andThen fun v w₂ => ((asAddr (tmps.getD q undef)).run P w₂).andThen fun a₂ w₃ => ((loadVar ty2 a₂).run P w₃).andThen fun v₂ w₄ => .ok (.tuple #[v, v₂]) w₄ := by
 simp only [results, h]
 simp [Sem.run_bind, Result.andThen]
end Go.Proofs.YtadlnmckcnfacaaGreat
namespace Go.Proofs.YtadlnmckcnfacaaGreat
open Go.RowKit Go.Rt
variable {B : Nat} {w0 W W' : World} {L : List (Nat × Value × Value)} {N : List (Option Addr × Nat × Nat)}
theorem ZEnv.start (w : World) : ZEnv w.heap.size w w [] [] := ⟨Nat.le_refl _, Below.refl _ _, by simp, by simp⟩
theorem ZEnv.addN (h : ZEnv B w0 W L N) {a : Option Addr} {c m : Nat} (hN : NAt W W.heap.size a c m) : ZEnv B w0 W L ((a, c, m) :: N) :=
 ⟨h.hB, h.bel, h.boxes, fun p hp => by
  rcases List.mem_cons.1 hp with rfl | hp
  ·exact hN
  ·exact h.nums p hp⟩
theorem ZEnv.addB (h : ZEnv B w0 W L N) {b : Nat} {v0 v1 : Value} (hX : NBox2 W b v0 v1) : ZEnv B w0 W ((b, v0, v1) :: L) N :=
 ⟨h.hB, h.bel, fun p hp => by
  rcases List.mem_cons.1 hp with rfl | hp
  ·exact ⟨hX, World.block_lt_of_cell? W _ hX.c0⟩
  ·exact h.boxes p hp, h.nums⟩
theorem ZEnv.box (h : ZEnv B w0 W L N) (i : Nat) {b : Nat} {v0 v1 : Value} (hi : L[i]? = some (b, v0, v1)) : NBox2 W b v0 v1 := (h.boxes _ (List.mem_of_getElem? hi)).1
theorem ZEnv.num (h : ZEnv B w0 W L N) (i : Nat) {a : Option Addr} {c m : Nat} (hi : N[i]? = some (a, c, m)) : NAt W W.heap.size a c m := h.nums _ (List.mem_of_getElem? hi)
theorem ZEnv.store {b : Nat} {v0 v1 : Value} (h : ZEnv B w0 W ((b, v0, v1) :: L) N) (hne : ∀ p ∈ L, p.1 ≠ b) (hb : B ≤ b) (h0 : ∀ x, v0 ≠ .int .u64 x) (h1 : ∀ x, v1 ≠ .int .u64 x) (y0 y1 : Value) :
  ZEnv B w0 ((W.setCell ⟨b, 0, none⟩ y0).setCell ⟨b, 1, none⟩ y1) ((b, y0, y1) :: L) N := by
 have hX := h.box 0 (b := b) rfl
 have hlt := World.block_lt_of_cell? W _ hX.c0
 have hs : ((W.setCell ⟨b, 0, none⟩ y0).setCell ⟨b, 1, none⟩ y1).heap.size = W.heap.size := by simp
 refine ⟨by rw [hs]; exact h.hB, (h.bel.setCell hb _).setCell hb _, fun p hp => ?_, fun p hp => ?_⟩
 ·rcases List.mem_cons.1 hp with rfl | hp
  ·obtain ⟨c0, c1, f0, f1⟩ := hX
   refine ⟨⟨?_, ?_, ?_, ?_⟩, by rw [hs]; exact hlt⟩ <;> go_simp
  ·have hn := hne p hp
   obtain ⟨⟨c0, c1, f0, f1⟩, hl⟩ := h.boxes p (List.mem_cons_of_mem _ hp)
   refine ⟨⟨?_, ?_, ?_, ?_⟩, by rw [hs]; exact hl⟩
   ·rw [World.cell?_setCell_far _ _ _ _ (Ne.symm hn), World.cell?_setCell_far _ _ _ _ (Ne.symm hn)]; exact c0
   ·rw [World.cell?_setCell_far _ _ _ _ (Ne.symm hn), World.cell?_setCell_far _ _ _ _ (Ne.symm hn)]; exact c1
   ·go_simp
   ·go_simp
 ·obtain ⟨c0, c1, f0, f1⟩ := hX
  refine nat_set (v := v1) (nat_set (h.nums p hp) c0 h0) ?_ h1
  go_simp
theorem ZEnv.sub (h : ZEnv B w0 W L N) (L' : List (Nat × Value × Value)) (hs : ∀ p ∈ L', p ∈ L) : ZEnv B w0 W L' N := ⟨h.hB, h.bel, fun p hp => h.boxes p (hs p hp), h.nums⟩
theorem ZEnv.subN (h : ZEnv B w0 W L N) (N' : List (Option Addr × Nat × Nat)) (hs : ∀ p ∈ N', p ∈ N) : ZEnv B w0 W L N' := ⟨h.hB, h.bel, h.boxes, fun p hp => h.nums p (hs p hp)⟩
theorem zbox_made (W : World) (v0 v1 : Value) (t : TypeId) : NBox2 (W.alloc (.cells #[v0, v1] t)) W.heap.size v0 v1 := by constructor <;> go_simp
theorem bool_int {b : Bool} : ∀ x, Value.bool b ≠ .int .u64 x := by intro x h; cases h
theorem slice_int {a : Option Addr} {n c : Nat} : ∀ x, Value.slice a n c ≠ .int .u64 x := by intro x h; cases h
def RetZZ (w : World) (x y : Int) (e : Ending) (w' : World) : Prop := ∃ a c b d, e = .returned (.tuple #[.agg #[.bool (decide (x < 0)), .slice a (dig 18446744073709551616 x.natAbs).length c], .agg #[.bool (decide (y < 0)), .slice b (dig 18446744073709551616 y.natAbs).length d]]) ∧ NAt w' w'.heap.size a c x.natAbs ∧ NAt w' w'.heap.size b d y.natAbs ∧ Below w.heap.size w w'
theorem dig_fits {m : Nat} (k : Nat) (h : m < 2 ^ k) (hk : k ≤ 6400000) : (dig 18446744073709551616 m).length ≤ 400000 := by
 have := dig_len_shift m k h
 omega
end Go.Proofs.YtadlnmckcnfacaaGreat
namespace Go.Proofs.YtadlnmckcnfacaaGreat
open Go.RowKit Go.Rt
theorem floor_abs {x y q : Int} (h : floorZ x y = q) : q.natAbs ≤ x.natAbs + 1 := by
 have hd := Nat.div_le_self x.natAbs y.natAbs
 obtain ⟨m, hm⟩ : ∃ m, x.natAbs / y.natAbs = m := ⟨_, rfl⟩
 rw [hm] at hd
 unfold floorZ sgnZ at h
 rw [hm] at h
 split at h <;> split at h <;> omega
theorem envZ {B : Nat} {w0 W : World} {L : List (Nat × Value × Value)} {N : List (Option Addr × Nat × Nat)} (E : ZEnv B w0 W L N) : ∃ Wb, W = Wb := ⟨_, rfl⟩
set_option maxHeartbeats 8000000 in
set_option maxRecDepth 100000 in
theorem zdivide_any (a b : Option Addr) (c d K : Nat) (x y q r : Int) (w : World) (h : NAt w w.heap.size a c x.natAbs) (h' : NAt w w.heap.size b d y.natAbs) (hK : K ≤ 1000000) (hx : x.natAbs < 2 ^ K) (hy : y.natAbs < 2 ^ K) (hy0 : y ≠ 0) (hq : floorZ x y = q) (hr : x - q * y = r) :
  Calls Tryz.prog 91 #[.agg #[.bool (decide (x < 0)), .slice a (dig 18446744073709551616 x.natAbs).length c], .agg #[.bool (decide (y < 0)), .slice b (dig 18446744073709551616 y.natAbs).length d]] w (RetZZ w q r) := by
 have hx4 := dig_fits K hx (by omega)
 have hy4 := dig_fits K hy (by omega)
 have hyp : 0 < y.natAbs := by omega
 have HND := fun w' (hb : Below w.heap.size w w') => Lib.hid (ndivide_any a b c d x.natAbs y.natAbs w' (h.next hb) (h'.next hb) hx4 hy4 hyp)
 have hfa := floor_abs hq
 have hpK : 2 ^ (K + 1) = 2 * 2 ^ K := by rw [Nat.pow_succ, Nat.mul_comm]
 have hqb : q.natAbs < 2 ^ (K + 1) := by omega
 have hqy : (q * y).natAbs < 2 ^ (K + 1 + K) := by rw [Int.natAbs_mul, Nat.pow_add]; exact Nat.mul_lt_mul_of_lt_of_lt hqb hy
 have lq := Nat.le_trans (dig_fits _ hqb (by omega)) (show 400000 ≤ 1000000 by decide)
 have lqy := Nat.le_trans (dig_fits _ hqy (by omega)) (show 400000 ≤ 1000000 by decide)
 have lx := Nat.le_trans hx4 (show 400000 ≤ 1000000 by decide)
 have ly := Nat.le_trans hy4 (show 400000 ≤ 1000000 by decide)
 obtain ⟨qy, hqye⟩ : ∃ qy, q * y = qy := ⟨_, rfl⟩
 rw [hqye] at lqy hr
 have HTM := fun a b c d w h h2 => Lib.hid (ztimes_any a b c d q y w h h2 lq ly)
 rw [hqye] at HTM
 have HLS := fun a b c d w h h2 => Lib.hid (zless_any a b c d x qy r w h h2 lx lqy hr)
 obtain ⟨m1, hm1⟩ : ∃ m, x.natAbs / y.natAbs = m := ⟨_, rfl⟩
 obtain ⟨r1, hr1⟩ : ∃ m, x.natAbs % y.natAbs = m := ⟨_, rfl⟩
 unfold floorZ at hq
 rw [hm1, hr1] at hq
 rw [hm1, hr1] at HND
 have hm1l : m1 ≤ x.natAbs := by rw [← hm1]; exact Nat.div_le_self _ _
 obtain ⟨z1, hz1⟩ : ∃ z, sgnZ (decide (x < 0) != decide (y < 0)) m1 = z := ⟨_, rfl⟩
 have lz1 : (dig 18446744073709551616 z1.natAbs).length ≤ 1000000 := by rw [← hz1, sgnZ_abs]; exact Nat.le_trans (dig_len_mono (by decide) hm1l) lx
 have HMD := fun a c w h => Lib.hid (made_any (decide (x < 0) != decide (y < 0)) a c m1 w h)
 rw [hz1] at HMD hq
 have HL1 := fun a b c d w h h2 (e : z1 - 1 = q) => Lib.hid (zless_any a b c d z1 1 q w h h2 lz1 (by decide) e)
 have H1 := fun w => Lib.hid (zfrom_any 1 w (by decide) (by decide))
 have hrl := dig_len_zero (B := 18446744073709551616) (m := r1) (by decide)
 have HA := Lib.hid h
 have HB' := Lib.hid h'
 clear hx4 hy4 hyp hfa hpK hqb hqy lq lqy lx ly lz1 hm1 hr1 hm1l hz1 hqye hr hx hy h h'
 generalize hsx : decide (x < 0) = sx at *
 generalize hsy : decide (y < 0) = sy at *
 generalize hX : dig 18446744073709551616 x.natAbs = X at *
 generalize hY : dig 18446744073709551616 y.natAbs = Y at *
 have HSX := Lib.hid hsx
 have HSY := Lib.hid hsy
 have HXE := Lib.hid hX
 have HYE := Lib.hid hY
 clear hsx hsy hX hY
 go_enter Tryz.func91, Tryz.ntmps91
 go_upto_region 2 with (go_at_call 64; refine (HND _ (by (repeat' (first | exact Below.refl _ _ | refine Below.drew ?_ | refine Below.setCell ?_ (by first | omega | (simp <;> omega)) _ | refine Below.alloc ?_ (by first | omega | (simp <;> omega)) _)))).out.mono ?_; rintro e w4 ⟨a4, c4, a5, c5, rfl, hN4, hN5, hb4⟩; have X0 := NBox2.below (b := w.heap.size) (v0 := .bool sx) (v1 := .slice a X.length c) (by constructor <;> go_simp) hb4 (by first | omega | (simp <;> omega)); have X1 := NBox2.below (b := (w.heap.size + 1)) (v0 := .bool sy) (v1 := .slice b Y.length d) (by constructor <;> go_simp) hb4 (by first | omega | (simp <;> omega)); have X2 := NBox2.below (b := (w.heap.size + 1 + 1)) (v0 := .bool false) (v1 := .slice none 0 0) (by constructor <;> go_simp) hb4 (by first | omega | (simp <;> omega)); have X3 := NBox2.below (b := (w.heap.size + 1 + 1 + 1)) (v0 := .bool false) (v1 := .slice none 0 0) (by constructor <;> go_simp) hb4 (by first | omega | (simp <;> omega)); have E := ((((ZEnv.start w).addN HA.out).addN HB'.out).next (W' := w4) (Below.trans (by (repeat' (first | exact Below.refl _ _ | refine Below.drew ?_ | refine Below.setCell ?_ (by first | omega | (simp <;> omega)) _ | refine Below.alloc ?_ (by first | omega | (simp <;> omega)) _))) (hb4.mono (by first | omega | (simp <;> omega))))); replace E := ((((((E.addN hN4).addN hN5).addB X0).addB X1).addB X2).addB X3); clear hb4 hN4 hN5 X0 X1 X2 X3; obtain ⟨k0c0, k0c1, k0f0, k0f1⟩ := E.box 0 (b := (w.heap.size + 1 + 1 + 1)) (v0 := .bool false) (v1 := .slice none 0 0) rfl; have k0l := E.lt 0 (b := (w.heap.size + 1 + 1 + 1)) (v0 := .bool false) (v1 := .slice none 0 0) rfl; obtain ⟨k1c0, k1c1, k1f0, k1f1⟩ := E.box 1 (b := (w.heap.size + 1 + 1)) (v0 := .bool false) (v1 := .slice none 0 0) rfl; have k1l := E.lt 1 (b := (w.heap.size + 1 + 1)) (v0 := .bool false) (v1 := .slice none 0 0) rfl; obtain ⟨k2c0, k2c1, k2f0, k2f1⟩ := E.box 2 (b := (w.heap.size + 1)) (v0 := .bool sy) (v1 := .slice b Y.length d) rfl; have k2l := E.lt 2 (b := (w.heap.size + 1)) (v0 := .bool sy) (v1 := .slice b Y.length d) rfl; obtain ⟨k3c0, k3c1, k3f0, k3f1⟩ := E.box 3 (b := w.heap.size) (v0 := .bool sx) (v1 := .slice a X.length c) rfl; have k3l := E.lt 3 (b := w.heap.size) (v0 := .bool sx) (v1 := .slice a X.length c) rfl)
 go_upto_region 3 with (go_at_call 55; refine (HMD _ _ _ (E.num 1 rfl)).out.mono ?_; rintro e w5 ⟨a6, c6, rfl, hN6, hb5⟩; have E' := E.next hb5; have HNE := Lib.hid (fun p hp => Nat.ne_of_lt (E'.boxes p hp).2); have HLB := Lib.hid E'.hB; clear E'; replace E := (((E.next hb5).addN hN6).alloc (.cells #[.bool (decide (z1 < 0)), .slice a6 (dig 18446744073709551616 z1.natAbs).length c6] 60)).addB (zbox_made _ _ _ _); clear hb5 hN6; (try clear k0c0 k0c1 k0f0 k0f1); (try clear k1c0 k1c1 k1f0 k1f1); (try clear k2c0 k2c1 k2f0 k2f1); (try clear k3c0 k3c1 k3f0 k3f1); obtain ⟨k0c0, k0c1, k0f0, k0f1⟩ := E.box 0 (b := w5.heap.size) (v0 := .bool (decide (z1 < 0))) (v1 := .slice a6 (dig 18446744073709551616 z1.natAbs).length c6) rfl; have k0l := E.lt 0 (b := w5.heap.size) (v0 := .bool (decide (z1 < 0))) (v1 := .slice a6 (dig 18446744073709551616 z1.natAbs).length c6) rfl; obtain ⟨k1c0, k1c1, k1f0, k1f1⟩ := E.box 1 (b := (w.heap.size + 1 + 1 + 1)) (v0 := .bool false) (v1 := .slice none 0 0) rfl; have k1l := E.lt 1 (b := (w.heap.size + 1 + 1 + 1)) (v0 := .bool false) (v1 := .slice none 0 0) rfl; obtain ⟨k2c0, k2c1, k2f0, k2f1⟩ := E.box 2 (b := (w.heap.size + 1 + 1)) (v0 := .bool false) (v1 := .slice none 0 0) rfl; have k2l := E.lt 2 (b := (w.heap.size + 1 + 1)) (v0 := .bool false) (v1 := .slice none 0 0) rfl; obtain ⟨k3c0, k3c1, k3f0, k3f1⟩ := E.box 3 (b := (w.heap.size + 1)) (v0 := .bool sy) (v1 := .slice b Y.length d) rfl; have k3l := E.lt 3 (b := (w.heap.size + 1)) (v0 := .bool sy) (v1 := .slice b Y.length d) rfl; obtain ⟨k4c0, k4c1, k4f0, k4f1⟩ := E.box 4 (b := w.heap.size) (v0 := .bool sx) (v1 := .slice a X.length c) rfl; have k4l := E.lt 4 (b := w.heap.size) (v0 := .bool sx) (v1 := .slice a X.length c) rfl)
 by_cases hg : ((sx != sy) && decide (0 < r1)) = true
 ·as_aux_lemma =>
   rw [if_pos hg] at hq
   rw [Bool.and_eq_true, decide_eq_true_eq] at hg
   obtain ⟨hg1, hg2⟩ := hg
   have hrl2 : (0 : Int) < ((dig 18446744073709551616 r1).length : Int) := by omega
   have HQ := Lib.hid hq
   have hne : ¬ sx = sy := by simpa using hg1
   have hne2 : (sx == sy) = false := by simpa using hg1
   clear hq hrl hg2
   go_upto_region 4 with fail
   (try simp only [hne2, Bool.not_false])
   clear hne hne2 hrl2 hg1
   generalize hB8 : w5.heap.size = B8 at *
   obtain ⟨W4, hW4⟩ := envZ E
   rw [hW4] at E ⊢
   (try clear k0c0 k0c1 k0f0 k0f1)
   (try clear k1c0 k1c1 k1f0 k1f1)
   (try clear k2c0 k2c1 k2f0 k2f1)
   (try clear k3c0 k3c1 k3f0 k3f1)
   (try clear k4c0 k4c1 k4f0 k4f1)
   clear hW4 hB8
   refine wp_region_parts2 (w := W4) 3 1 none [] [(fun u _ => u = .agg #[.bool (decide (z1 < 0)), .slice a6 (dig 18446744073709551616 z1.natAbs).length c6]), ((IsZ 1)), ((IsZ q))] [some 34, some 35, some 36, none] #[true, true, true, false] #[true, true, true, false] (by kernel_rfl) rfl (by kernel_rfl) (by kernel_rfl) rfl (by kernel_rfl) (by kernel_rfl) (.cons (carries_eq _) (.cons (isZ_carries _) (.cons (isZ_carries _) .nil))) (fun vs b hvl hvb => ?_)
   obtain ⟨x0, x1, x2, x3, rfl⟩ : ∃ x0 x1 x2 x3, vs = [x0, x1, x2, x3] := lst4 hvl
   clear hvl
   simp only [putAll, Act.put, List.setIfInBounds_toArray, List.set_cons_zero, List.set_cons_succ] at hvb
   subst hvb
   refine ⟨(.snoc (.snoc (.snoc .zero (PartOb.intro (d := (some 34)) (r := fun u _ => u = .agg #[.bool (decide (z1 < 0)), .slice a6 (dig 18446744073709551616 z1.natAbs).length c6]) rfl rfl rfl rfl ?po4x0)) (PartOb.intro (d := (some 35)) (r := (IsZ 1)) rfl rfl rfl rfl ?po4x1)) (PartOb.intro (d := (some 36)) (r := (IsZ q)) rfl rfl rfl rfl ?po4x2)), ?pend4, ?pfl4⟩
   case po4x0 =>
    intro w1 hb1 hd KK hK
    have E1 := E.next hb1
    obtain ⟨e0, e1, e2, e3⟩ := E1.box 0 (b := B8) (v0 := .bool (decide (z1 < 0))) (v1 := .slice a6 (dig 18446744073709551616 z1.natAbs).length c6) rfl
    go_simp
    first | exact hK.out _ _ (Below.refl _ _) rfl | (have hk := hK.out _ _ (Below.refl _ _) rfl; revert hk; go_simp)
   case po4x1 =>
    intro w1 hb1 hd KK hK
    go_simp
    go_at_call 26
    refine (H1 _).out.mono ?_
    rintro e w2 ⟨a2, c2, rfl, hN2, hb2⟩
    (try go_wp2_with fail)
    first | exact hK.out _ _ hb2 ⟨a2, c2, rfl, hN2⟩ | (have hk := hK.out _ _ hb2 ⟨a2, c2, rfl, hN2⟩; revert hk; go_simp)
   case po4x2 =>
    intro w1 hb1 hd KK hK
    obtain rfl := hd 0 (by kernel_rfl)
    obtain ⟨a1x, e1x, rfl, hN1⟩ := hd 1 (by kernel_rfl)
    go_simp
    go_at_call 115
    refine (HL1 _ _ _ _ w1 ((E.next hb1).num 0 rfl) hN1 HQ.out).out.mono ?_
    rintro e w2 ⟨a2, c2, rfl, hN2, hb2⟩
    (try go_wp2_with fail)
    first | exact hK.out _ _ hb2 ⟨a2, c2, rfl, hN2⟩ | (have hk := hK.out _ _ hb2 ⟨a2, c2, rfl, hN2⟩; revert hk; go_simp)
   case pfl4 => (intro f hf; cases hf)
   case pend4 =>
   intro w1 hb1 hR hD
   obtain rfl := hR 0 (by decide)
   obtain ⟨a1x, e1x, rfl, hN1⟩ := hR 1 (by decide)
   obtain ⟨a2x, e2x, rfl, hN2⟩ := hR 2 (by decide)
   clear hR hD
   refine wpAny_ready (rs := [3]) (by kernel_rfl) (by simp) (AllReady.cons rfl (fun KK hK => ?_) AllReady.nil)
   have E4 := (E.next hb1).addN hN2
   have hXb := E4.box 0 (b := B8) rfl
   have E5 := E4.store HNE.out HLB.out bool_int slice_int (.bool (decide (q < 0))) (.slice a2x (dig 18446744073709551616 q.natAbs).length e2x)
   obtain ⟨m0c0, m0c1, m0f0, m0f1⟩ := hXb
   go_simp
   refine hK _ _ ?_
   clear hK KK
   refine wpAny_done (by kernel_rfl) ?_ _
   obtain ⟨W5, hW5⟩ := envZ E5
   rw [hW5] at E5 ⊢
   clear hW5 m0c0 m0c1 m0f0 m0f1 E4 E hb1 hN1
   have E := E5
   clear E5
   skip
   obtain ⟨a8, rfl⟩ : ∃ a8, a8 = a2x := ⟨_, rfl⟩
   obtain ⟨c8, rfl⟩ : ∃ c8, c8 = e2x := ⟨_, rfl⟩
   go_upto_region 5 with fail
   refine wp_region_parts2 (w := W5) 6 2 none [] [(fun u _ => u = .agg #[.bool (decide (q < 0)), .slice a8 (dig 18446744073709551616 q.natAbs).length c8]), (fun u _ => u = .agg #[.bool sx, .slice a X.length c]), (fun u _ => u = .agg #[.bool (decide (q < 0)), .slice a8 (dig 18446744073709551616 q.natAbs).length c8]), (fun u _ => u = .agg #[.bool sy, .slice b Y.length d]), ((IsZ qy)), ((IsZ r))] [some 37, some 38, some 39, some 40, some 41, some 42, none, none] #[true, true, true, true, true, true, false, false] #[true, true, true, true, true, true, false, false] (by kernel_rfl) rfl (by kernel_rfl) (by kernel_rfl) rfl (by kernel_rfl) (by kernel_rfl) (.cons (carries_eq _) (.cons (carries_eq _) (.cons (carries_eq _) (.cons (carries_eq _) (.cons (isZ_carries _) (.cons (isZ_carries _) .nil)))))) (fun vs b hvl hvb => ?_)
   obtain ⟨x0, x1, x2, x3, x4, x5, x6, x7, rfl⟩ : ∃ x0 x1 x2 x3 x4 x5 x6 x7, vs = [x0, x1, x2, x3, x4, x5, x6, x7] := lst8 hvl
   clear hvl
   simp only [putAll, Act.put, List.setIfInBounds_toArray, List.set_cons_zero, List.set_cons_succ] at hvb
   subst hvb
   refine ⟨(.snoc (.snoc (.snoc (.snoc (.snoc (.snoc .zero (PartOb.intro (d := (some 37)) (r := fun u _ => u = .agg #[.bool (decide (q < 0)), .slice a8 (dig 18446744073709551616 q.natAbs).length c8]) rfl rfl rfl rfl ?po5x0)) (PartOb.intro (d := (some 38)) (r := fun u _ => u = .agg #[.bool sx, .slice a X.length c]) rfl rfl rfl rfl ?po5x1)) (PartOb.intro (d := (some 39)) (r := fun u _ => u = .agg #[.bool (decide (q < 0)), .slice a8 (dig 18446744073709551616 q.natAbs).length c8]) rfl rfl rfl rfl ?po5x2)) (PartOb.intro (d := (some 40)) (r := fun u _ => u = .agg #[.bool sy, .slice b Y.length d]) rfl rfl rfl rfl ?po5x3)) (PartOb.intro (d := (some 41)) (r := (IsZ qy)) rfl rfl rfl rfl ?po5x4)) (PartOb.intro (d := (some 42)) (r := (IsZ r)) rfl rfl rfl rfl ?po5x5)), ?pend5, ?pfl5⟩
   case po5x0 | po5x2 =>
    intro w1 hb1 hd KK hK
    have E1 := E.next hb1
    obtain ⟨e0, e1, e2, e3⟩ := E1.box 0 (b := B8) (v0 := .bool (decide (q < 0))) (v1 := .slice a8 (dig 18446744073709551616 q.natAbs).length c8) rfl
    go_simp
    first | exact hK.out _ _ (Below.refl _ _) rfl | (have hk := hK.out _ _ (Below.refl _ _) rfl; revert hk; go_simp)
   case po5x1 =>
    intro w1 hb1 hd KK hK
    have E1 := E.next hb1
    obtain ⟨e0, e1, e2, e3⟩ := E1.box 4 (b := w.heap.size) (v0 := .bool sx) (v1 := .slice a X.length c) rfl
    go_simp
    first | exact hK.out _ _ (Below.refl _ _) rfl | (have hk := hK.out _ _ (Below.refl _ _) rfl; revert hk; go_simp)
   case po5x3 =>
    intro w1 hb1 hd KK hK
    have E1 := E.next hb1
    obtain ⟨e0, e1, e2, e3⟩ := E1.box 3 (b := (w.heap.size + 1)) (v0 := .bool sy) (v1 := .slice b Y.length d) rfl
    go_simp
    first | exact hK.out _ _ (Below.refl _ _) rfl | (have hk := hK.out _ _ (Below.refl _ _) rfl; revert hk; go_simp)
   case po5x4 =>
    intro w1 hb1 hd KK hK
    obtain rfl := hd 2 (by kernel_rfl)
    obtain rfl := hd 3 (by kernel_rfl)
    go_simp
    go_at_call 25
    refine (HTM _ _ _ _ w1 ((E.next hb1).num 0 rfl) ((E.next hb1).num 4 rfl)).out.mono ?_
    rintro e w2 ⟨a2, c2, rfl, hN2, hb2⟩
    (try go_wp2_with fail)
    first | exact hK.out _ _ hb2 ⟨a2, c2, rfl, hN2⟩ | (have hk := hK.out _ _ hb2 ⟨a2, c2, rfl, hN2⟩; revert hk; go_simp)
   case po5x5 =>
    intro w1 hb1 hd KK hK
    obtain rfl := hd 1 (by kernel_rfl)
    obtain ⟨a4x, e4x, rfl, hN4⟩ := hd 4 (by kernel_rfl)
    go_simp
    go_at_call 115
    refine (HLS _ _ _ _ w1 ((E.next hb1).num 5 rfl) hN4).out.mono ?_
    rintro e w2 ⟨a3, c3, rfl, hN3, hb2⟩
    (try go_wp2_with fail)
    first | exact hK.out _ _ hb2 ⟨a3, c3, rfl, hN3⟩ | (have hk := hK.out _ _ hb2 ⟨a3, c3, rfl, hN3⟩; revert hk; go_simp)
   case pfl5 => (intro f hf; cases hf)
   case pend5 =>
   intro w1 hb1 hR hD
   obtain rfl := hR 0 (by decide)
   obtain rfl := hR 1 (by decide)
   obtain rfl := hR 2 (by decide)
   obtain rfl := hR 3 (by decide)
   obtain ⟨a4x, e4x, rfl, hN4⟩ := hR 4 (by decide)
   obtain ⟨a5x, e5x, rfl, hN5⟩ := hR 5 (by decide)
   clear hR hD
   refine wpAny_ready (rs := [6]) (by kernel_rfl) (by simp) (AllReady.cons rfl (fun KK hK => ?_) AllReady.nil)
   have E6 := E.next hb1
   obtain ⟨m0c0, m0c1, m0f0, m0f1⟩ := E6.box 0 (b := B8) (v0 := .bool (decide (q < 0))) (v1 := .slice a8 (dig 18446744073709551616 q.natAbs).length c8) rfl
   obtain ⟨m1c0, m1c1, m1f0, m1f1⟩ := E6.box 1 (b := (w.heap.size + 1 + 1 + 1)) (v0 := .bool false) (v1 := .slice none 0 0) rfl
   obtain ⟨m2c0, m2c1, m2f0, m2f1⟩ := E6.box 2 (b := (w.heap.size + 1 + 1)) (v0 := .bool false) (v1 := .slice none 0 0) rfl
   have l1 := E6.lt 1 (b := (w.heap.size + 1 + 1 + 1)) rfl
   go_simp
   refine hK _ _ ?_
   clear hK KK
   refine wpAny_ready (rs := [7]) (by kernel_rfl) (by simp) (AllReady.cons rfl (fun KK hK => ?_) AllReady.nil)
   go_simp
   refine hK _ _ ?_
   clear hK KK
   refine wpAny_done (by kernel_rfl) ?_ _
   go_wp2
   refine bodyPost_ret (v := .tuple #[.agg #[.bool (decide (q < 0)), .slice a8 (dig 18446744073709551616 q.natAbs).length c8], .agg #[.bool (decide (r < 0)), .slice a5x (dig 18446744073709551616 r.natAbs).length e5x]]) (by rw [nres_cc rfl]; go_simp) rfl ?_
   have E7 := (((E6.addN hN5).sub [(w.heap.size + 1 + 1, .bool false, .slice none 0 0), (w.heap.size + 1 + 1 + 1, .bool false, .slice none 0 0)] (by simp)).store (by simp) (by omega) bool_int slice_int (.bool (decide (q < 0))) (.slice a8 (dig 18446744073709551616 q.natAbs).length c8))
   have E8 := (E7.sub [(w.heap.size + 1 + 1 + 1, .bool false, .slice none 0 0)] (by simp)).store (by simp) (by omega) bool_int slice_int (.bool (decide (r < 0))) (.slice a5x (dig 18446744073709551616 r.natAbs).length e5x)
   exact ⟨a8, c8, a5x, e5x, rfl, E8.num 1 rfl, E8.num 0 rfl, E8.bel⟩
 ·as_aux_lemma =>
   rw [if_neg hg, Int.sub_zero] at hq
   replace hq := hq.symm
   subst hq
   skip
   by_cases hne : sx = sy
   ·as_aux_lemma =>
     subst hne
     clear hg hrl
     go_upto_region 5 with fail
     generalize hB8 : w5.heap.size = B8 at *
     obtain ⟨W5, hW5⟩ := envZ E
     rw [hW5] at E ⊢
     (try clear k0c0 k0c1 k0f0 k0f1)
     (try clear k1c0 k1c1 k1f0 k1f1)
     (try clear k2c0 k2c1 k2f0 k2f1)
     (try clear k3c0 k3c1 k3f0 k3f1)
     (try clear k4c0 k4c1 k4f0 k4f1)
     clear hW5 hB8
     obtain ⟨a8, rfl⟩ : ∃ a8, a8 = a6 := ⟨_, rfl⟩
     obtain ⟨c8, rfl⟩ : ∃ c8, c8 = c6 := ⟨_, rfl⟩
     refine wp_region_parts2 (w := W5) 6 2 none [] [(fun u _ => u = .agg #[.bool (decide (q < 0)), .slice a8 (dig 18446744073709551616 q.natAbs).length c8]), (fun u _ => u = .agg #[.bool sx, .slice a X.length c]), (fun u _ => u = .agg #[.bool (decide (q < 0)), .slice a8 (dig 18446744073709551616 q.natAbs).length c8]), (fun u _ => u = .agg #[.bool sx, .slice b Y.length d]), ((IsZ qy)), ((IsZ r))] [some 37, some 38, some 39, some 40, some 41, some 42, none, none] #[true, true, true, true, true, true, false, false] #[true, true, true, true, true, true, false, false] (by kernel_rfl) rfl (by kernel_rfl) (by kernel_rfl) rfl (by kernel_rfl) (by kernel_rfl) (.cons (carries_eq _) (.cons (carries_eq _) (.cons (carries_eq _) (.cons (carries_eq _) (.cons (isZ_carries _) (.cons (isZ_carries _) .nil)))))) (fun vs b hvl hvb => ?_)
     obtain ⟨x0, x1, x2, x3, x4, x5, x6, x7, rfl⟩ : ∃ x0 x1 x2 x3 x4 x5 x6 x7, vs = [x0, x1, x2, x3, x4, x5, x6, x7] := lst8 hvl
     clear hvl
     simp only [putAll, Act.put, List.setIfInBounds_toArray, List.set_cons_zero, List.set_cons_succ] at hvb
     subst hvb
     refine ⟨(.snoc (.snoc (.snoc (.snoc (.snoc (.snoc .zero (PartOb.intro (d := (some 37)) (r := fun u _ => u = .agg #[.bool (decide (q < 0)), .slice a8 (dig 18446744073709551616 q.natAbs).length c8]) rfl rfl rfl rfl ?po5x0)) (PartOb.intro (d := (some 38)) (r := fun u _ => u = .agg #[.bool sx, .slice a X.length c]) rfl rfl rfl rfl ?po5x1)) (PartOb.intro (d := (some 39)) (r := fun u _ => u = .agg #[.bool (decide (q < 0)), .slice a8 (dig 18446744073709551616 q.natAbs).length c8]) rfl rfl rfl rfl ?po5x2)) (PartOb.intro (d := (some 40)) (r := fun u _ => u = .agg #[.bool sx, .slice b Y.length d]) rfl rfl rfl rfl ?po5x3)) (PartOb.intro (d := (some 41)) (r := (IsZ qy)) rfl rfl rfl rfl ?po5x4)) (PartOb.intro (d := (some 42)) (r := (IsZ r)) rfl rfl rfl rfl ?po5x5)), ?pend5, ?pfl5⟩
     case po5x0 | po5x2 =>
      intro w1 hb1 hd KK hK
      have E1 := E.next hb1
      obtain ⟨e0, e1, e2, e3⟩ := E1.box 0 (b := B8) (v0 := .bool (decide (q < 0))) (v1 := .slice a8 (dig 18446744073709551616 q.natAbs).length c8) rfl
      go_simp
      first | exact hK.out _ _ (Below.refl _ _) rfl | (have hk := hK.out _ _ (Below.refl _ _) rfl; revert hk; go_simp)
     case po5x1 =>
      intro w1 hb1 hd KK hK
      have E1 := E.next hb1
      obtain ⟨e0, e1, e2, e3⟩ := E1.box 4 (b := w.heap.size) (v0 := .bool sx) (v1 := .slice a X.length c) rfl
      go_simp
      first | exact hK.out _ _ (Below.refl _ _) rfl | (have hk := hK.out _ _ (Below.refl _ _) rfl; revert hk; go_simp)
     case po5x3 =>
      intro w1 hb1 hd KK hK
      have E1 := E.next hb1
      obtain ⟨e0, e1, e2, e3⟩ := E1.box 3 (b := (w.heap.size + 1)) (v0 := .bool sx) (v1 := .slice b Y.length d) rfl
      go_simp
      first | exact hK.out _ _ (Below.refl _ _) rfl | (have hk := hK.out _ _ (Below.refl _ _) rfl; revert hk; go_simp)
     case po5x4 =>
      intro w1 hb1 hd KK hK
      obtain rfl := hd 2 (by kernel_rfl)
      obtain rfl := hd 3 (by kernel_rfl)
      go_simp
      go_at_call 25
      refine (HTM _ _ _ _ w1 ((E.next hb1).num 0 rfl) ((E.next hb1).num 3 rfl)).out.mono ?_
      rintro e w2 ⟨a2, c2, rfl, hN2, hb2⟩
      (try go_wp2_with fail)
      first | exact hK.out _ _ hb2 ⟨a2, c2, rfl, hN2⟩ | (have hk := hK.out _ _ hb2 ⟨a2, c2, rfl, hN2⟩; revert hk; go_simp)
     case po5x5 =>
      intro w1 hb1 hd KK hK
      obtain rfl := hd 1 (by kernel_rfl)
      obtain ⟨a4x, e4x, rfl, hN4⟩ := hd 4 (by kernel_rfl)
      go_simp
      go_at_call 115
      refine (HLS _ _ _ _ w1 ((E.next hb1).num 4 rfl) hN4).out.mono ?_
      rintro e w2 ⟨a3, c3, rfl, hN3, hb2⟩
      (try go_wp2_with fail)
      first | exact hK.out _ _ hb2 ⟨a3, c3, rfl, hN3⟩ | (have hk := hK.out _ _ hb2 ⟨a3, c3, rfl, hN3⟩; revert hk; go_simp)
     case pfl5 => (intro f hf; cases hf)
     case pend5 =>
     intro w1 hb1 hR hD
     obtain rfl := hR 0 (by decide)
     obtain rfl := hR 1 (by decide)
     obtain rfl := hR 2 (by decide)
     obtain rfl := hR 3 (by decide)
     obtain ⟨a4x, e4x, rfl, hN4⟩ := hR 4 (by decide)
     obtain ⟨a5x, e5x, rfl, hN5⟩ := hR 5 (by decide)
     clear hR hD
     refine wpAny_ready (rs := [6]) (by kernel_rfl) (by simp) (AllReady.cons rfl (fun KK hK => ?_) AllReady.nil)
     have E6 := E.next hb1
     obtain ⟨m0c0, m0c1, m0f0, m0f1⟩ := E6.box 0 (b := B8) (v0 := .bool (decide (q < 0))) (v1 := .slice a8 (dig 18446744073709551616 q.natAbs).length c8) rfl
     obtain ⟨m1c0, m1c1, m1f0, m1f1⟩ := E6.box 1 (b := (w.heap.size + 1 + 1 + 1)) (v0 := .bool false) (v1 := .slice none 0 0) rfl
     obtain ⟨m2c0, m2c1, m2f0, m2f1⟩ := E6.box 2 (b := (w.heap.size + 1 + 1)) (v0 := .bool false) (v1 := .slice none 0 0) rfl
     have l1 := E6.lt 1 (b := (w.heap.size + 1 + 1 + 1)) rfl
     go_simp
     refine hK _ _ ?_
     clear hK KK
     refine wpAny_ready (rs := [7]) (by kernel_rfl) (by simp) (AllReady.cons rfl (fun KK hK => ?_) AllReady.nil)
     go_simp
     refine hK _ _ ?_
     clear hK KK
     refine wpAny_done (by kernel_rfl) ?_ _
     go_wp2
     refine bodyPost_ret (v := .tuple #[.agg #[.bool (decide (q < 0)), .slice a8 (dig 18446744073709551616 q.natAbs).length c8], .agg #[.bool (decide (r < 0)), .slice a5x (dig 18446744073709551616 r.natAbs).length e5x]]) (by rw [nres_cc rfl]; go_simp) rfl ?_
     have E7 := (((E6.addN hN5).sub [(w.heap.size + 1 + 1, .bool false, .slice none 0 0), (w.heap.size + 1 + 1 + 1, .bool false, .slice none 0 0)] (by simp)).store (by simp) (by omega) bool_int slice_int (.bool (decide (q < 0))) (.slice a8 (dig 18446744073709551616 q.natAbs).length c8))
     have E8 := (E7.sub [(w.heap.size + 1 + 1 + 1, .bool false, .slice none 0 0)] (by simp)).store (by simp) (by omega) bool_int slice_int (.bool (decide (r < 0))) (.slice a5x (dig 18446744073709551616 r.natAbs).length e5x)
     exact ⟨a8, c8, a5x, e5x, rfl, E8.num 1 rfl, E8.num 0 rfl, E8.bel⟩
   ·as_aux_lemma =>
     have hne2 : (sx == sy) = false := by simpa using hne
     have hne3 : (sx != sy) = true := by simpa using hne
     have hg4 : ¬ (0 : Int) < ((dig 18446744073709551616 r1).length : Int) := by
      rw [hne3, Bool.true_and, decide_eq_true_eq] at hg
      omega
     clear hg hrl
     go_upto_region 5 with fail
     (try simp only [hne2, Bool.not_false])
     clear hne hne2 hne3 hg4
     generalize hB8 : w5.heap.size = B8 at *
     obtain ⟨W5, hW5⟩ := envZ E
     rw [hW5] at E ⊢
     (try clear k0c0 k0c1 k0f0 k0f1)
     (try clear k1c0 k1c1 k1f0 k1f1)
     (try clear k2c0 k2c1 k2f0 k2f1)
     (try clear k3c0 k3c1 k3f0 k3f1)
     (try clear k4c0 k4c1 k4f0 k4f1)
     clear hW5 hB8
     obtain ⟨a8, rfl⟩ : ∃ a8, a8 = a6 := ⟨_, rfl⟩
     obtain ⟨c8, rfl⟩ : ∃ c8, c8 = c6 := ⟨_, rfl⟩
     refine wp_region_parts2 (w := W5) 6 2 none [] [(fun u _ => u = .agg #[.bool (decide (q < 0)), .slice a8 (dig 18446744073709551616 q.natAbs).length c8]), (fun u _ => u = .agg #[.bool sx, .slice a X.length c]), (fun u _ => u = .agg #[.bool (decide (q < 0)), .slice a8 (dig 18446744073709551616 q.natAbs).length c8]), (fun u _ => u = .agg #[.bool sy, .slice b Y.length d]), ((IsZ qy)), ((IsZ r))] [some 37, some 38, some 39, some 40, some 41, some 42, none, none] #[true, true, true, true, true, true, false, false] #[true, true, true, true, true, true, false, false] (by kernel_rfl) rfl (by kernel_rfl) (by kernel_rfl) rfl (by kernel_rfl) (by kernel_rfl) (.cons (carries_eq _) (.cons (carries_eq _) (.cons (carries_eq _) (.cons (carries_eq _) (.cons (isZ_carries _) (.cons (isZ_carries _) .nil)))))) (fun vs b hvl hvb => ?_)
     obtain ⟨x0, x1, x2, x3, x4, x5, x6, x7, rfl⟩ : ∃ x0 x1 x2 x3 x4 x5 x6 x7, vs = [x0, x1, x2, x3, x4, x5, x6, x7] := lst8 hvl
     clear hvl
     simp only [putAll, Act.put, List.setIfInBounds_toArray, List.set_cons_zero, List.set_cons_succ] at hvb
     subst hvb
     refine ⟨(.snoc (.snoc (.snoc (.snoc (.snoc (.snoc .zero (PartOb.intro (d := (some 37)) (r := fun u _ => u = .agg #[.bool (decide (q < 0)), .slice a8 (dig 18446744073709551616 q.natAbs).length c8]) rfl rfl rfl rfl ?po5x0)) (PartOb.intro (d := (some 38)) (r := fun u _ => u = .agg #[.bool sx, .slice a X.length c]) rfl rfl rfl rfl ?po5x1)) (PartOb.intro (d := (some 39)) (r := fun u _ => u = .agg #[.bool (decide (q < 0)), .slice a8 (dig 18446744073709551616 q.natAbs).length c8]) rfl rfl rfl rfl ?po5x2)) (PartOb.intro (d := (some 40)) (r := fun u _ => u = .agg #[.bool sy, .slice b Y.length d]) rfl rfl rfl rfl ?po5x3)) (PartOb.intro (d := (some 41)) (r := (IsZ qy)) rfl rfl rfl rfl ?po5x4)) (PartOb.intro (d := (some 42)) (r := (IsZ r)) rfl rfl rfl rfl ?po5x5)), ?pend5, ?pfl5⟩
     case po5x0 | po5x2 =>
      intro w1 hb1 hd KK hK
      have E1 := E.next hb1
      obtain ⟨e0, e1, e2, e3⟩ := E1.box 0 (b := B8) (v0 := .bool (decide (q < 0))) (v1 := .slice a8 (dig 18446744073709551616 q.natAbs).length c8) rfl
      go_simp
      first | exact hK.out _ _ (Below.refl _ _) rfl | (have hk := hK.out _ _ (Below.refl _ _) rfl; revert hk; go_simp)
     case po5x1 =>
      intro w1 hb1 hd KK hK
      have E1 := E.next hb1
      obtain ⟨e0, e1, e2, e3⟩ := E1.box 4 (b := w.heap.size) (v0 := .bool sx) (v1 := .slice a X.length c) rfl
      go_simp
      first | exact hK.out _ _ (Below.refl _ _) rfl | (have hk := hK.out _ _ (Below.refl _ _) rfl; revert hk; go_simp)
     case po5x3 =>
      intro w1 hb1 hd KK hK
      have E1 := E.next hb1
      obtain ⟨e0, e1, e2, e3⟩ := E1.box 3 (b := (w.heap.size + 1)) (v0 := .bool sy) (v1 := .slice b Y.length d) rfl
      go_simp
      first | exact hK.out _ _ (Below.refl _ _) rfl | (have hk := hK.out _ _ (Below.refl _ _) rfl; revert hk; go_simp)
     case po5x4 =>
      intro w1 hb1 hd KK hK
      obtain rfl := hd 2 (by kernel_rfl)
      obtain rfl := hd 3 (by kernel_rfl)
      go_simp
      go_at_call 25
      refine (HTM _ _ _ _ w1 ((E.next hb1).num 0 rfl) ((E.next hb1).num 3 rfl)).out.mono ?_
      rintro e w2 ⟨a2, c2, rfl, hN2, hb2⟩
      (try go_wp2_with fail)
      first | exact hK.out _ _ hb2 ⟨a2, c2, rfl, hN2⟩ | (have hk := hK.out _ _ hb2 ⟨a2, c2, rfl, hN2⟩; revert hk; go_simp)
     case po5x5 =>
      intro w1 hb1 hd KK hK
      obtain rfl := hd 1 (by kernel_rfl)
      obtain ⟨a4x, e4x, rfl, hN4⟩ := hd 4 (by kernel_rfl)
      go_simp
      go_at_call 115
      refine (HLS _ _ _ _ w1 ((E.next hb1).num 4 rfl) hN4).out.mono ?_
      rintro e w2 ⟨a3, c3, rfl, hN3, hb2⟩
      (try go_wp2_with fail)
      first | exact hK.out _ _ hb2 ⟨a3, c3, rfl, hN3⟩ | (have hk := hK.out _ _ hb2 ⟨a3, c3, rfl, hN3⟩; revert hk; go_simp)
     case pfl5 => (intro f hf; cases hf)
     case pend5 =>
     intro w1 hb1 hR hD
     obtain rfl := hR 0 (by decide)
     obtain rfl := hR 1 (by decide)
     obtain rfl := hR 2 (by decide)
     obtain rfl := hR 3 (by decide)
     obtain ⟨a4x, e4x, rfl, hN4⟩ := hR 4 (by decide)
     obtain ⟨a5x, e5x, rfl, hN5⟩ := hR 5 (by decide)
     clear hR hD
     refine wpAny_ready (rs := [6]) (by kernel_rfl) (by simp) (AllReady.cons rfl (fun KK hK => ?_) AllReady.nil)
     have E6 := E.next hb1
     obtain ⟨m0c0, m0c1, m0f0, m0f1⟩ := E6.box 0 (b := B8) (v0 := .bool (decide (q < 0))) (v1 := .slice a8 (dig 18446744073709551616 q.natAbs).length c8) rfl
     obtain ⟨m1c0, m1c1, m1f0, m1f1⟩ := E6.box 1 (b := (w.heap.size + 1 + 1 + 1)) (v0 := .bool false) (v1 := .slice none 0 0) rfl
     obtain ⟨m2c0, m2c1, m2f0, m2f1⟩ := E6.box 2 (b := (w.heap.size + 1 + 1)) (v0 := .bool false) (v1 := .slice none 0 0) rfl
     have l1 := E6.lt 1 (b := (w.heap.size + 1 + 1 + 1)) rfl
     go_simp
     refine hK _ _ ?_
     clear hK KK
     refine wpAny_ready (rs := [7]) (by kernel_rfl) (by simp) (AllReady.cons rfl (fun KK hK => ?_) AllReady.nil)
     go_simp
     refine hK _ _ ?_
     clear hK KK
     refine wpAny_done (by kernel_rfl) ?_ _
     go_wp2
     refine bodyPost_ret (v := .tuple #[.agg #[.bool (decide (q < 0)), .slice a8 (dig 18446744073709551616 q.natAbs).length c8], .agg #[.bool (decide (r < 0)), .slice a5x (dig 18446744073709551616 r.natAbs).length e5x]]) (by rw [nres_cc rfl]; go_simp) rfl ?_
     have E7 := (((E6.addN hN5).sub [(w.heap.size + 1 + 1, .bool false, .slice none 0 0), (w.heap.size + 1 + 1 + 1, .bool false, .slice none 0 0)] (by simp)).store (by simp) (by omega) bool_int slice_int (.bool (decide (q < 0))) (.slice a8 (dig 18446744073709551616 q.natAbs).length c8))
     have E8 := (E7.sub [(w.heap.size + 1 + 1 + 1, .bool false, .slice none 0 0)] (by simp)).store (by simp) (by omega) bool_int slice_int (.bool (decide (r < 0))) (.slice a5x (dig 18446744073709551616 r.natAbs).length e5x)
     exact ⟨a8, c8, a5x, e5x, rfl, E8.num 1 rfl, E8.num 0 rfl, E8.bel⟩
end Go.Proofs.YtadlnmckcnfacaaGreat
