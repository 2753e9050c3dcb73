/- Walks of the references' whole numbers: products. -/
import Derived.Test.YtimjhjacinchjaaGreatN8
import Derived.BigQuiet
import Derived.WalkMore
import Derived.Deep.RegionHeld3
import Derived.Deep.RegionWith
import Derived.BigRegion
import Derived.Deep.Cut
import Derived.Deep.CutBlock
import Derived.Deep.CutRange
set_option linter.unusedVariables false
set_option linter.unusedSimpArgs false
namespace Go.Proofs.YtimjhjacinchjaaGreat
open Go.RowKit Go.Rt

theorem make_u32 (n : Nat) (hn : n ≤ 17592186044416) (w : World) : (Instr.makeSlice 107 (.int .i64 (n : Int)) (.int .i64 (n : Int))).run Tryz.prog w = .ok (.slice (some ⟨w.heap.size, 0, none⟩) n n) (w.alloc (.cells (madeCells #[Value.int .u32 0] n) 109)) := by
  obtain ⟨i, hi, hz0, hz1, hz2⟩ := info_parts infoU32n
  have hr := run_make (P := Tryz.prog) w 107 109 i (.int .u32 0) Tryz.underlying107 hi hz0 .i64 .i64 n n (by omega) (Int.le_refl _) (by rw [hz2]; omega) (by omega)
  simp only [Int.toNat_natCast, hz1, Nat.mul_one, Value.cells] at hr
  exact hr
theorem valB_set {B : Nat} : ∀ (L : List Int) (j old d : Nat), j < L.length → L[j]?.getD 0 = (old : Int) → valB B (L.set j (d : Int)) + B ^ j * old = valB B L + B ^ j * d
  | x :: r, 0, old, d, _, h => by
    have : x = old := by simpa using h
    subst this
    simp [valB]
    omega
  | x :: r, j + 1, old, d, hj, h => by
    have ih := valB_set (B := B) r j old d (by simpa using hj) (by simpa using h)
    rw [List.set_cons_succ, valB, valB, Nat.pow_succ, Nat.mul_comm (B ^ j) B, Nat.mul_assoc, Nat.mul_assoc, Nat.add_assoc, ← Nat.mul_add, ih, Nat.mul_add]
    omega
theorem set_getD (L : List Int) (j : Nat) (d : Int) (i : Nat) : (L.set j d)[i]?.getD 0 = if i = j ∧ j < L.length then d else L[i]?.getD 0 := by
  rw [List.getElem?_set]
  by_cases h : j = i
  · subst h
    by_cases h2 : j < L.length
    · simp [h2]
    · simp [h2]
  · rw [if_neg h, if_neg (fun h2 => h h2.1.symm)]
theorem Rng.set {B : Nat} {L : List Int} (h : Rng B L) (j d : Nat) (hd : d < B) : Rng B (L.set j (d : Int)) := fun x hx => by
  rcases List.mem_or_eq_of_mem_set hx with h1 | h1
  · exact h x h1
  · subst h1; omega
/-- One step of a row of a product. -/
theorem times_step {B i k x y c l r q V0 VY : Nat} {L : List Int} (hV : valB B L + B ^ (i + k) * c = V0 + B ^ i * (x * VY)) (hj : i + k < L.length) (hl : L[i + k]?.getD 0 = (l : Int)) (hs : c + l + x * y = r + B * q) :
    valB B (L.set (i + k) (r : Int)) + B ^ (i + (k + 1)) * q = V0 + B ^ i * (x * (VY + B ^ k * y)) := by
  have h1 := valB_set (B := B) L (i + k) l r hj hl
  have h2 : B ^ (i + k) * (c + l + x * y) = B ^ (i + k) * (r + B * q) := by rw [hs]
  rw [Nat.mul_add, Nat.mul_add, Nat.mul_add] at h2
  rw [show i + (k + 1) = i + k + 1 by omega, Nat.pow_succ, Nat.mul_add x, Nat.mul_add (B ^ i)]
  have h3 : B ^ i * (x * (B ^ k * y)) = B ^ (i + k) * (x * y) := by rw [Nat.pow_add, Nat.mul_assoc, Nat.mul_left_comm x]
  rw [h3, Nat.mul_assoc]
  omega
theorem stored_u32 {w : World} {base g n cap : Nat} {L : List Int} (h : w.ownsRow base 109 1 (.slice (some ⟨g, 0, none⟩) n cap) n (L.map (Value.int .u32))) (j : Nat) (x : Int) : (w.setCell ⟨g, j, none⟩ (.int .u32 x)).ownsRow base 109 1 (.slice (some ⟨g, 0, none⟩) n cap) n ((L.set j x).map (Value.int .u32)) := by
  have := (h.stored j (.int .u32 x)).1
  rwa [map_set] at this
theorem below_drewN0 (w : World) (q : Nat) : Below w.heap.size w (w.drewN q) :=
  ⟨rfl, rfl, rfl, Nat.le_refl _, fun _ _ => rfl⟩

set_option maxHeartbeats 8000000 in
set_option maxRecDepth 100000 in
theorem ntimes_any (a b : Option Addr) (c d m n : Nat) (w : World) (h : NAt w w.heap.size a c m) (h' : NAt w w.heap.size b d n) (hm : (dig 18446744073709551616 m).length ≤ 1000000) (hn : (dig 18446744073709551616 n).length ≤ 1000000)  :
    Calls Tryz.prog 58 #[.slice a (dig 18446744073709551616 m).length c, .slice b (dig 18446744073709551616 n).length d] w (RetN w (m * n)) := by
  have h1 := fun w' (hb : Below w.heap.size w w') => Lib.hid (halves_any a c m w' (h.next hb) (by omega))
  have h2 := fun w' (hb : Below w.heap.size w w') => Lib.hid (halves_any b d n w' (h'.next hb) (by omega))
  clear h h'
  have k1 := dig32_len m
  have k2 := dig32_len n
  go_enter Tryz.func58, Tryz.ntmps58
  go_upto_region 3 with (first | (go_at_call_of 71 a; refine (h1 w (Below.refl _ _)).out.mono ?_; rintro e w1 ⟨ax, cx, rfl, hX, hb1⟩; have HX1 := Lib.hid hX; have HB1 := Lib.hid hb1; clear hX hb1) | (go_at_call_of 71 b; refine (h2 _ HB1.out).out.mono ?_; rintro e w2 ⟨ay, cy, rfl, hY, hb2⟩; have HY2 := Lib.hid hY; have HB2 := Lib.hid hb2; clear hY hb2))
  have HX2 := Lib.hid (HX1.out.next HB2.out)
  have HBW := Lib.hid (HB1.out.trans (HB2.out.mono HB1.out.size))
  clear HX1 HB1 HB2
  obtain ⟨X, hXe⟩ : ∃ X, dig 4294967296 m = X := ⟨_, rfl⟩
  obtain ⟨Y, hYe⟩ : ∃ Y, dig 4294967296 n = Y := ⟨_, rfl⟩
  have rX : Rng 4294967296 X := by rw [← hXe]; exact dig_rng (by decide) _
  have rY : Rng 4294967296 Y := by rw [← hYe]; exact dig_rng (by decide) _
  have vX : valB 4294967296 X = m := by rw [← hXe]; exact val_dig (by decide) _
  have vY : valB 4294967296 Y = n := by rw [← hYe]; exact val_dig (by decide) _
  have HcX := Lib.hid HX2.out.li
  have HcY := Lib.hid HY2.out.li
  rw [hXe] at HcX
  rw [hYe] at HcY
  rw [hXe] at k1 ⊢
  rw [hYe] at k2 ⊢
  have RX := Lib.hid rX
  have RY := Lib.hid rY
  have VX := Lib.hid vX
  have VY := Lib.hid vY
  have HXE := Lib.hid hXe
  have HYE := Lib.hid hYe
  clear hXe hYe rX rY vX vY HX2 HY2 h1 h2
  have hlX : X.length ≤ 2000000 := by omega
  have hlY : Y.length ≤ 2000000 := by omega
  clear k1 k2
  have hmk := make_u32 (X.length + Y.length) (by omega)
  obtain ⟨N, hN⟩ : ∃ N : Nat, X.length + Y.length = N := ⟨_, rfl⟩
  have hNb : N ≤ 4000000 := by omega
  have eN : ∀ [Inhabited Unit], (X.length : Int) + (Y.length : Int) = (N : Int) := by intro _; omega
  have eN2 : ∀ [Inhabited Unit], RowKit.wrap64 (N : Int) = (N : Int) := by intro _; exact IntWalk.wrap64_in _ ⟨by omega, by omega⟩
  rw [hN] at hmk
  go_wp2_with fail
  clear hmk eN eN2
  have HNN := Lib.hid hN
  clear hN
  have row := World.ownsRow_lit (base := w2.heap.size) (e := 109) (size := 1) w2 (madeCells #[Value.int .u32 0] N) N (Nat.le_refl _) (by unfold maxLen; omega) (by rw [size_madeCells, Nat.mul_one])
  rw [made_zeros] at row
  have bel0 : Below w2.heap.size w2 (w2.alloc (.cells (madeCells #[Value.int .u32 0] N) 109)) := (Below.refl _ _).alloc (Nat.le_refl _) _
  go_loopw [8] (fun iv wr => ∃ (i : Nat) (L : List Int), i ≤ X.length ∧ iv = .int .i64 i ∧ Hid (Rng 4294967296 L) ∧ Hid (valB 4294967296 L = valB 4294967296 (X.take i) * n) ∧ Hid (∀ j : Nat, i + Y.length ≤ j → L[j]?.getD 0 = 0) ∧ Hid (wr.ownsRow w2.heap.size 109 1 (.slice (some ⟨w2.heap.size, 0, none⟩) N N) N (L.map (Value.int .u32))) ∧ Hid (Below w2.heap.size w2 wr)) (fun iv _ => X.length - (intOf iv).toNat)
  case atStart => exact ⟨0, List.replicate N 0, Nat.zero_le _, rfl, Lib.hid (fun x hx => by rw [(List.mem_replicate.1 hx).2]; omega), Lib.hid (by simp [valB_zeros, valB]), Lib.hid (fun j _ => by rw [List.getElem?_replicate]; split <;> rfl), Lib.hid row, Lib.hid bel0⟩
  case round =>
    clear row bel0
    obtain ⟨i, L, hi, rfl, HR, HV, HZ, HO, HB⟩ := hrel
    obtain ⟨wa, rfl⟩ : ∃ wa : World, wa = wr := ⟨_, rfl⟩
    have HLL := Lib.hid (own_len_k HO.out)
    by_cases hx : i < X.length
    · have dX := RX.out.getD (by decide) i
      obtain ⟨x, ex⟩ : ∃ d : Nat, X[i]?.getD 0 = (d : Int) := ⟨(X[i]?.getD 0).toNat, by omega⟩
      obtain ⟨bX, oX, ex2, hlb, cX0⟩ := HcX.out.cell i hx
      rw [ex] at cX0 dX
      subst ex2
      have ix : (i : Int) < (X.length : Int) := by omega
      have i0 : (0 : Int) ≤ (i : Int) := by omega
      have HEX := Lib.hid ex
      clear ex
      have HCX := Lib.hid cX0
      clear cX0
      go_wp2_with fail
      go_loopw [10, 9] (fun kv cv wr => ∃ (k c : Nat) (M : List Int), k ≤ Y.length ∧ kv = .int .i64 k ∧ cv = .int .u64 c ∧ c < 4294967296 ∧ Hid (Rng 4294967296 M) ∧ Hid (valB 4294967296 M + 4294967296 ^ (i + k) * c = valB 4294967296 L + 4294967296 ^ i * (x * valB 4294967296 (Y.take k))) ∧ Hid (∀ j : Nat, i + k ≤ j → M[j]?.getD 0 = L[j]?.getD 0) ∧ Hid (wr.ownsRow w2.heap.size 109 1 (.slice (some ⟨w2.heap.size, 0, none⟩) N N) N (M.map (Value.int .u32))) ∧ Hid (Below w2.heap.size w2 wr)) (fun kv _ _ => Y.length - (intOf kv).toNat)
      case atStart => exact ⟨0, 0, L, Nat.zero_le _, rfl, rfl, by omega, HR, Lib.hid (by simp [valB]), Lib.hid (fun _ _ => rfl), HO, HB⟩
      case round =>
        obtain ⟨k, c0, M, hk, rfl, rfl, hc, HR1, HV1, HZ1, HO1, HB1⟩ := hrel
        obtain ⟨wb, rfl⟩ : ∃ wb : World, wb = wr := ⟨_, rfl⟩
        have HLM := Lib.hid (own_len_k HO1.out)
        clear HO HB
        have cX := (HB1.out.cell (p := ⟨bX, oX + i, none⟩) hlb).trans HCX.out
        by_cases hy : k < Y.length
        · have dY := RY.out.getD (by decide) k
          obtain ⟨y, ey⟩ : ∃ d : Nat, Y[k]?.getD 0 = (d : Int) := ⟨(Y[k]?.getD 0).toNat, by omega⟩
          obtain ⟨bY, oY, ey2, hlb2, cY⟩ := HcY.out.cell k hy
          rw [ey] at cY dY
          replace cY := (HB1.out.cell (p := ⟨bY, oY + k, none⟩) hlb2).trans cY
          subst ey2
          have iy : (k : Int) < (Y.length : Int) := by omega
          have k0 : (0 : Int) ≤ (k : Int) := by omega
          obtain ⟨ik, hik⟩ : ∃ ik : Nat, ik = i + k := ⟨_, rfl⟩
          have hikN : ik < N := by have := HNN.out; omega
          have q1 : ∀ [Inhabited Unit], (i : Int) + (k : Int) = (ik : Int) := by intro _; omega
          have q2 : ∀ [Inhabited Unit], IntKind.i64.wrap (ik : Int) = (ik : Int) := by intro _; rw [IntWalk.i64_left]; exact IntWalk.wrap64_in _ ⟨by omega, by omega⟩
          have q3 : ∀ [Inhabited Unit], RowKit.wrap64 (ik : Int) = (ik : Int) := by intro _; exact IntWalk.wrap64_in _ ⟨by omega, by omega⟩
          have iN : (ik : Int) < (N : Int) := by omega
          have ik0 : (0 : Int) ≤ (ik : Int) := by omega
          have dM := HR1.out.getD (by decide) ik
          obtain ⟨l, el⟩ : ∃ d : Nat, M[ik]?.getD 0 = (d : Int) := ⟨(M[ik]?.getD 0).toNat, by omega⟩
          rw [el] at dM
          have cM := own_cell HO1.out hikN
          rw [el] at cM
          have fM := HO1.out.frozenAt ik
          obtain ⟨p, hp⟩ : ∃ p : Nat, p = x * y := ⟨_, rfl⟩
          have hp2 : p ≤ 18446744065119617025 := by rw [hp]; exact Nat.mul_le_mul (show x ≤ 4294967295 by omega) (show y ≤ 4294967295 by omega)
          obtain ⟨s1, hs1⟩ : ∃ s1 : Nat, s1 = c0 + l := ⟨_, rfl⟩
          obtain ⟨S, hS⟩ : ∃ S : Nat, S = s1 + p := ⟨_, rfl⟩
          have hSb : S < 18446744073709551616 := by omega
          have h1b : s1 < 18446744073709551616 := by omega
          have hpb : p < 18446744073709551616 := by omega
          have r1 : ∀ [Inhabited Unit], (c0 : Int) + (l : Int) = (s1 : Int) := by intro _; omega
          have r2 : ∀ [Inhabited Unit], (x : Int) * (y : Int) = (p : Int) := by intro _; rw [hp, Int.natCast_mul]
          have r3 : ∀ [Inhabited Unit], (s1 : Int) + (p : Int) = (S : Int) := by intro _; omega
          have r4 : ∀ [Inhabited Unit], IntKind.u64.wrap (s1 : Int) = (s1 : Int) := by intro _; exact u64_same _ (by omega) (by omega)
          have r5 : ∀ [Inhabited Unit], IntKind.u64.wrap (p : Int) = (p : Int) := by intro _; exact u64_same _ (by omega) (by omega)
          have r6 : ∀ [Inhabited Unit], IntKind.u64.wrap (S : Int) = (S : Int) := by intro _; exact u64_same _ (by omega) (by omega)
          obtain ⟨r, hr⟩ : ∃ r : Nat, r = S % 4294967296 := ⟨_, rfl⟩
          obtain ⟨q, hq⟩ : ∃ q : Nat, q = S / 4294967296 := ⟨_, rfl⟩
          have r7 : ∀ [Inhabited Unit], IntKind.u32.wrap (S : Int) = (r : Int) := by intro _; rw [IntKind.wrap_u32]; omega
          have r8 : ∀ [Inhabited Unit], (S : Int) / 4294967296 = (q : Int) := by intro _; omega
          have hq2 : q < 4294967296 := by omega
          have hr2 : r < 4294967296 := by omega
          have hst := times_step (y := y) (r := r) (q := q) HV1.out (by rw [HLM.out, ← hik]; exact hikN) (by rw [← hik]; exact el) (by omega)
          have t1 := valB_take_succ' 4294967296 Y k
          rw [ey, Int.toNat_natCast] at t1
          rw [← t1, ← hik] at hst
          have HV2 := Lib.hid hst
          have HR2 := Lib.hid (HR1.out.set ik r hr2)
          have HZ2 : Hid (∀ j : Nat, i + (k + 1) ≤ j → (M.set ik (r : Int))[j]?.getD 0 = L[j]?.getD 0) := Lib.hid (fun j hj => by rw [set_getD, if_neg (by omega)]; exact HZ1.out j (by omega))
          clear hst t1 hp hs1 hS hr hq ey el HLM hik
          go_upto_region 11 with fail
          go_quiet (fail)
          have HO2 := Lib.hid (stored_u32 (L := M) (show (wb.drewN nq).ownsRow w2.heap.size 109 1 (.slice (some ⟨w2.heap.size, 0, none⟩) N N) N (M.map (Value.int .u32)) from HO1.out) ik (r : Int))
          have HB2 : Hid (Below w2.heap.size w2 ((wb.drewN nq).setCell ⟨w2.heap.size, ik, none⟩ (.int .u32 (r : Int)))) := Lib.hid (Below.setCell (HB1.out.trans ((below_drewN0 wb nq).mono HB1.out.size)) (Nat.le_refl _) _)
          go_wp2
          go_roundw
          case rel => exact ⟨k + 1, q, _, by omega, by go_num, rfl, hq2, HR2, HV2, HZ2, HO2, HB2⟩
          case measure => simp [intOf]; omega
        · have iy : ¬ (k : Int) < (Y.length : Int) := by omega
          have hke : k = Y.length := by omega
          obtain ⟨ik, hik⟩ : ∃ ik : Nat, ik = i + Y.length := ⟨_, rfl⟩
          have hikN : ik < N := by have := HNN.out; omega
          have q1 : ∀ [Inhabited Unit], (i : Int) + (Y.length : Int) = (ik : Int) := by intro _; omega
          have q3 : ∀ [Inhabited Unit], RowKit.wrap64 (ik : Int) = (ik : Int) := by intro _; exact IntWalk.wrap64_in _ ⟨by omega, by omega⟩
          have iN : (ik : Int) < (N : Int) := by omega
          have ik0 : (0 : Int) ≤ (ik : Int) := by omega
          have fM := HO1.out.frozenAt ik
          have cM := own_cell HO1.out hikN
          have hz : M[ik]?.getD 0 = ((0 : Nat) : Int) := by rw [HZ1.out ik (by omega), HZ.out ik (by omega)]; rfl
          have hz2 : M[ik]?.getD 0 = 0 := by rw [hz]; rfl
          rw [hz2] at cM
          have hv := HV1.out
          rw [hke, List.take_length, VY.out, ← hik] at hv
          have hset := valB_set (B := 4294967296) M ik 0 c0 (by rw [HLM.out]; exact hikN) hz
          rw [Nat.mul_zero, Nat.add_zero] at hset
          have t1 := valB_take_succ' 4294967296 X i
          rw [HEX.out, Int.toNat_natCast] at t1
          have hv2 : valB 4294967296 (M.set ik (c0 : Int)) = valB 4294967296 (X.take (i + 1)) * n := by rw [hset, hv, HV.out, t1, Nat.add_mul, Nat.mul_assoc]
          have HV2 := Lib.hid hv2
          have HR2 := Lib.hid (HR1.out.set ik c0 hc)
          have HZ2 : Hid (∀ j : Nat, i + 1 + Y.length ≤ j → (M.set ik (c0 : Int))[j]?.getD 0 = 0) := Lib.hid (fun j hj => by rw [set_getD, if_neg (by omega), HZ1.out j (by omega)]; exact HZ.out j (by omega))
          have eC : ∀ [Inhabited Unit], IntKind.u32.wrap (c0 : Int) = (c0 : Int) := by intro _; rw [IntKind.wrap_u32]; omega
          have HO2 := Lib.hid (stored_u32 HO1.out ik (c0 : Int))
          have HB2 : Hid (Below w2.heap.size w2 (wb.setCell ⟨w2.heap.size, ik, none⟩ (.int .u32 (c0 : Int)))) := Lib.hid (Below.setCell HB1.out (Nat.le_refl _) _)
          clear hv hv2 hset t1 hz hz2 hke hy hik
          go_wp2
          go_roundw
          case rel => exact ⟨i + 1, _, by omega, by go_num, HR2, HV2, HZ2, HO2, HB2⟩
          case measure => simp [intOf]; omega
    · have ix : ¬ (i : Int) < (X.length : Int) := by omega
      have hv := HV.out
      rw [List.take_of_length_le (by omega), VX.out] at hv
      have HV3 := Lib.hid hv
      clear hv hx
      (have hown1 := HO.out; obtain ⟨a4, c4, he, hI⟩ := own_ints hown1 (fun x hx => by have := HR.out x hx; exact wf_u32_iff.2 ⟨by omega, by omega⟩); injection he with e1 e2 e3; clear e2; subst e1; subst e3; have HCP := Lib.hid (own_cap1 hown1); have HCQ : Hid (L.length ≤ N ∧ N ≤ 9223372036854775807) := Lib.hid (by rw [HLL.out]; exact HCP.out); have HI := Lib.hid hI; have HC := Lib.hid (cut_any (some ⟨w2.heap.size, 0, none⟩) N wa.heap.size _ wa hI HCQ.out.1 HCQ.out.2); rw [HV3.out, HLL.out] at HC; have HD := Lib.hid (dig_of_ints HI.out HCQ.out); rw [HV3.out] at HD; have HW := Lib.hid (nwhole_any (some ⟨w2.heap.size, 0, none⟩) N (m * n) wa HD.out (by have e := dig_is_take (B := 4294967296) (by decide) HR.out; rw [HV3.out] at e; have e2 := congrArg List.length e; rw [List.length_take, HLL.out] at e2; omega)); clear hown1 hI HD HI)
      go_wp2_with (first | (go_at_call 78; refine HC.out.mono ?_; rintro e w4 ⟨rfl, rfl⟩) | (go_at_call 73; refine HW.out.mono ?_; rintro e w5 ⟨a5, c5, rfl, hN, hb5⟩; have HN := Lib.hid hN; have HB5 := Lib.hid hb5; clear hN hb5))
      go_ret
      exact ⟨a5, c5, rfl, HN.out, (HBW.out.trans (HB.out.mono HBW.out.size)).trans (HB5.out.mono (Nat.le_trans HBW.out.size HB.out.size))⟩
end Go.Proofs.YtimjhjacinchjaaGreat
