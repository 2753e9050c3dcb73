/- Walks: divide by a divisor of two words; Round and Down by 0. -/
import Derived.Test.YtlbmpdidmckgkaaDiv5
import Derived.Test.YtlbmpdidmckgkaaN3
import Derived.WalkMore
import Derived.BigQuiet
import Derived.Deep.RegionHeld3
import Derived.Deep.RegionWith
import Derived.BigRegion
import Derived.Deep.Cut
import Derived.Deep.CutBlock
import Derived.Deep.CutRange
set_option linter.unusedVariables false
set_option linter.unusedSimpArgs false
namespace Go.Proofs.Ytlbmpdidmckgkaa
open Go.RowKit Go.Rt

theorem dv_round {M nn Q R D b P : Int} (h0 : 0 ≤ nn) (h1 : nn < 340282366920938463463374607431768211456) (hb : nn / 170141183460469231731687303715884105728 = b) (h2 : P = M * 340282366920938463463374607431768211456 + nn) (h3 : M = Q * D + R) :
    P * 2 = (2 * M + b) * 340282366920938463463374607431768211456 + (2 * nn) % 340282366920938463463374607431768211456 ∧ 2 * M + b = (2 * Q) * D + (2 * R + b) ∧ 2 * M + b = (2 * Q + 1) * D + (2 * R + b - D) := by
  have e1 : (2 * Q) * D = 2 * (Q * D) := Int.mul_assoc _ _ _
  have e2 : (2 * Q + 1) * D = 2 * (Q * D) + D := by rw [Int.add_mul, Int.one_mul, e1]
  rw [e1, e2]
  generalize Q * D = QD at *
  omega
theorem pow2_succ (N : Int) (k : Nat) : N * ((2 ^ (k + 1) : Nat) : Int) = N * ((2 ^ k : Nat) : Int) * 2 := by rw [Nat.pow_succ, Int.natCast_mul, ← Int.mul_assoc]; rfl
theorem or_bit (x y : Int) (hx : 0 ≤ x ∧ x < 18446744073709551616) (he : x % 2 = 0) (hy : 0 ≤ y ∧ y < 2) : bits BinOp.or IntKind.u64 x y = x + y := by
  rw [bits_join IntKind.u64 64 (by decide) u64_same 1 x y (by omega) (by simpa using he) (by omega) (by omega) (by simpa using hy.2) (by omega)]
theorem size_set2 (W : World) (b : Nat) (y0 y1 : Value) : ((W.setCell ⟨b, 0, none⟩ y0).setCell ⟨b, 1, none⟩ y1).heap.size = W.heap.size := by simp
theorem below_set2 {B b : Nat} {w W : World} (h : Below B w W) (hb : B ≤ b) (y0 y1 : Value) : Below B w ((W.setCell ⟨b, 0, none⟩ y0).setCell ⟨b, 1, none⟩ y1) := (h.setCell hb _).setCell hb _
theorem box_set {w : World} {b : Nat} {v0 v1 : Value} (h : Box2 w b v0 v1) (y0 y1 : Value) : Box2 ((w.setCell ⟨b, 0, none⟩ y0).setCell ⟨b, 1, none⟩ y1) b y0 y1 := by
  obtain ⟨c0, c1, f0, f1⟩ := h
  constructor <;> go_simp
theorem box_far {w : World} {b b2 : Nat} {v0 v1 : Value} (h : Box2 w b v0 v1) (hne : b2 ≠ b) (y0 y1 : Value) : Box2 ((w.setCell ⟨b2, 0, none⟩ y0).setCell ⟨b2, 1, none⟩ y1) b v0 v1 := by
  obtain ⟨c0, c1, f0, f1⟩ := h
  refine ⟨?_, ?_, ?_, ?_⟩
  · rw [World.cell?_setCell_far _ _ _ _ hne, World.cell?_setCell_far _ _ _ _ hne]; exact c0
  · rw [World.cell?_setCell_far _ _ _ _ hne, World.cell?_setCell_far _ _ _ _ hne]; exact c1
  · go_simp
  · go_simp
theorem q_small {M Q D R : Int} (hM : M < 340282366920938463463374607431768211456) (hD : 18446744073709551616 ≤ D) (hQ : 0 ≤ Q) (hR : 0 ≤ R) (h : M = Q * D + R) : Q < 18446744073709551616 := by
  refine Classical.byContradiction fun hc => ?_
  have := Int.mul_le_mul (show (18446744073709551616 : Int) ≤ Q by omega) hD (by decide) hQ
  omega

theorem results_cc2 {fn : Func} {p q : Tmp} {ty ty2 : TypeId} (h : fn.results = #[.cell p ty, .cell q ty2]) (tmps : Array Value) (P : Program) (w : World) :
    (results fn tmps).run P w = ((asAddr (tmps.getD p undef)).run P w).andThen fun a w₁ => ((loadVar ty a).run P w₁).andThen fun v w₂ => ((asAddr (tmps.getD q undef)).run P w₂).andThen fun a₂ w₃ => ((loadVar ty2 a₂).run P w₃).andThen fun v₂ w₄ => .ok (.tuple #[v, v₂]) w₄ := by
  simp only [results, h]
  simp [Sem.run_bind, Result.andThen]
set_option maxHeartbeats 8000000 in
set_option maxRecDepth 100000 in
theorem divide_hi (n d : Int) (w : World) (n0 : 0 ≤ n) (n1' : n < 340282366920938463463374607431768211456) (d0 : 18446744073709551616 ≤ d) (d1' : d ≤ 170141183460469231731687303715884105728) : Div n d w := by
  unfold Div
  obtain ⟨n1, hn1⟩ : ∃ q, n / 18446744073709551616 = q := ⟨_, rfl⟩
  obtain ⟨n2, hn2⟩ : ∃ q, n % 18446744073709551616 = q := ⟨_, rfl⟩
  obtain ⟨d1, hd1⟩ : ∃ q, d / 18446744073709551616 = q := ⟨_, rfl⟩
  obtain ⟨d2, hd2⟩ : ∃ q, d % 18446744073709551616 = q := ⟨_, rfl⟩
  rw [hn1, hn2, hd1, hd2]
  have bd1 : 1 ≤ d1 ∧ d1 ≤ 9223372036854775808 := by omega
  have bd2 : 0 ≤ d2 ∧ d2 ≤ 18446744073709551615 := by omega
  have eD : V d1 d2 = d := by unfold V; omega
  have eN : V n1 n2 = n := by unfold V; omega
  have hz : (d1 == 0) = false := by simp; omega
  have hz2 : ¬ d1 = 0 := by omega
  have HND := Lib.hid (And.intro n0 n1')
  have HDD := Lib.hid (And.intro d0 d1')
  have HED := Lib.hid eD
  have HEN := Lib.hid eN
  have bn1 : 0 ≤ n1 ∧ n1 ≤ 18446744073709551615 := by omega
  have bn2 : 0 ≤ n2 ∧ n2 ≤ 18446744073709551615 := by omega
  have HBN := Lib.hid (And.intro bn1 bn2)
  clear eD eN hn1 hn2 hd1 hd2 n0 n1' d0 d1' bn1 bn2
  go_enter Try.func67, Try.ntmps67
  go_wp2
  go_step3
  go_wp2
  go_step3
  go_wp2
  go_loopw [7] (fun iv wr => ∃ (k : Nat) (I nh nl qh ql rh rl M : Int), k ≤ 128 ∧ iv = .int .i64 I ∧ I = 127 - (k : Int) ∧ Hid (0 ≤ nh ∧ nh ≤ 18446744073709551615 ∧ 0 ≤ nl ∧ nl ≤ 18446744073709551615 ∧ 0 ≤ qh ∧ qh ≤ 18446744073709551615 ∧ 0 ≤ ql ∧ ql ≤ 18446744073709551615 ∧ 0 ≤ rh ∧ rh ≤ 18446744073709551615 ∧ 0 ≤ rl ∧ rl ≤ 18446744073709551615) ∧ Hid (n * ((2 ^ k : Nat) : Int) = M * 340282366920938463463374607431768211456 + V nh nl) ∧ Hid (M = V qh ql * d + V rh rl) ∧ Hid (V rh rl < d) ∧ Hid (k = 128 ∨ M < 340282366920938463463374607431768211456) ∧ Hid (Box2 wr w.heap.size (.int .u64 nh) (.int .u64 nl)) ∧ Hid (Box2 wr (w.heap.size + 1) (.int .u64 d1) (.int .u64 d2)) ∧ Hid (Box2 wr (w.heap.size + 1 + 1) (.int .u64 qh) (.int .u64 ql)) ∧ Hid (Box2 wr (w.heap.size + 1 + 1 + 1) (.int .u64 rh) (.int .u64 rl)) ∧ Hid (Below w.heap.size w wr ∧ w.heap.size + 1 + 1 + 1 < wr.heap.size)) (fun iv _ => (intOf iv + 1).toNat)
  case atStart =>
    have hb := HBN.out
    have hd0 := HDD.out
    refine ⟨0, 127, n1, n2, 0, 0, 0, 0, 0, by omega, rfl, by omega, Lib.hid ⟨by omega, by omega, by omega, by omega, by omega, by omega, by omega, by omega, by omega, by omega, by omega, by omega⟩, Lib.hid (by rw [HEN.out]; simp), Lib.hid (by unfold V; simp), Lib.hid (by unfold V; omega), Lib.hid (.inr (by omega)), Lib.hid (by constructor <;> go_simp), Lib.hid (by constructor <;> go_simp), Lib.hid (by constructor <;> go_simp), Lib.hid (by constructor <;> go_simp), Lib.hid ⟨(by (repeat' (first | exact Below.refl _ _ | refine Below.drew ?_ | refine Below.setCell ?_ (by first | omega | (simp <;> omega)) _ | refine Below.alloc ?_ (by first | omega | (simp <;> omega)) _))), by simp⟩⟩
  case round =>
    obtain ⟨k, I, nh, nl, qh, ql, rh, rl, M, hk, rfl, hI, HB, HP, HM, HR, HMB, HX0, HX1, HX2, HX3, HW⟩ := hrel
    obtain ⟨wi, rfl⟩ : ∃ wi : World, wi = wr := ⟨_, rfl⟩
    obtain ⟨a0, a1, af0, af1⟩ := HX0.out
    obtain ⟨b0, b1, bf0, bf1⟩ := HX1.out
    obtain ⟨q0, q1, qf0, qf1⟩ := HX2.out
    obtain ⟨r0, r1, rf0, rf1⟩ := HX3.out
    have hsz := HW.out.2
    by_cases hk8 : k = 128
    · as_aux_lemma =>
        obtain rfl : I = -1 := by omega
        clear hI hk
        have hfin : V qh ql = n / d ∧ V rh rl = n % d := by
          obtain ⟨g1, g2, g3, g4, g5, g6, g7, g8, g9, g10, g11, g12⟩ := HB.out
          have h1 := HP.out
          rw [hk8] at h1
          have h2 := HND.out
          have h3 := HM.out
          have h4 := HR.out
          have h5 := HDD.out
          rw [show (((2 ^ 128 : Nat) : Int)) = 340282366920938463463374607431768211456 from rfl] at h1
          have hMn : M = n := by unfold V at h1; omega
          have hr0 : 0 ≤ V rh rl := by unfold V; omega
          rw [hMn] at h3
          rw [h3]
          refine ⟨?_, ?_⟩
          · rw [Int.add_comm, Int.add_mul_ediv_right _ _ (by omega), Int.ediv_eq_zero_of_lt hr0 h4, Int.zero_add]
          · rw [Int.add_comm, Int.add_mul_emod_self_right, Int.emod_eq_of_lt hr0 h4]
        obtain ⟨f1, f2⟩ := hfin
        have e1 : n / d / 18446744073709551616 = qh := by rw [← f1]; obtain ⟨g1, g2, g3, g4, g5, g6, g7, g8, g9, g10, g11, g12⟩ := HB.out; unfold V; omega
        have e2 : n / d % 18446744073709551616 = ql := by rw [← f1]; obtain ⟨g1, g2, g3, g4, g5, g6, g7, g8, g9, g10, g11, g12⟩ := HB.out; unfold V; omega
        have e3 : n % d / 18446744073709551616 = rh := by rw [← f2]; obtain ⟨g1, g2, g3, g4, g5, g6, g7, g8, g9, g10, g11, g12⟩ := HB.out; unfold V; omega
        have e4 : n % d % 18446744073709551616 = rl := by rw [← f2]; obtain ⟨g1, g2, g3, g4, g5, g6, g7, g8, g9, g10, g11, g12⟩ := HB.out; unfold V; omega
        have EE := Lib.hid (And.intro e1 (And.intro e2 (And.intro e3 e4)))
        clear e1 e2 e3 e4 f1 f2 hk8
        go_wp2
        go_region
        all_goals go_wp2
        all_goals (try simp only [Exit.noGoto, Exit.inBlock, Exit.then])
        all_goals refine bodyPost_ret (v := .tuple #[.agg #[.int .u64 qh, .int .u64 ql], .agg #[.int .u64 rh, .int .u64 rl]]) (by rw [results_cc2 rfl]; go_simp) rfl ⟨by rw [EE.out.1, EE.out.2.1, EE.out.2.2.1, EE.out.2.2.2], ?_⟩
        all_goals exact (by (repeat' (first | exact HW.out.1 | refine Below.drew ?_ | refine Below.setCell ?_ (by first | omega | (simp <;> omega)) _)))
    · as_aux_lemma =>
        have hI0 : ¬ I < 0 := by omega
        have HI := Lib.hid hI
        have HWI : Hid (RowKit.wrap64 (I - 1) = I - 1) := Lib.hid (IntWalk.wrap64_in _ ⟨by omega, by omega⟩)
        have hIm : ∀ [Inhabited Unit], RowKit.wrap64 (I - 1) = I - 1 := by intro _; exact IntWalk.wrap64_in _ ⟨by omega, by omega⟩
        obtain ⟨g1, g2, g3, g4, g5, g6, g7, g8, g9, g10, g11, g12⟩ := HB.out
        have hdd := HDD.out
        have hR := HR.out
        have hMm := HMB.out.resolve_left hk8
        have hr0 : 0 ≤ V rh rl := by unfold V; omega
        have hq0 : 0 ≤ V qh ql := by unfold V; omega
        have hqs := q_small hMm (by omega) hq0 hr0 HM.out
        have hqh : qh = 0 := by unfold V at hqs; omega
        have hn0 : 0 ≤ V nh nl ∧ V nh nl < 340282366920938463463374607431768211456 := by unfold V; omega
        obtain ⟨B, hB⟩ : ∃ z, V nh nl / 170141183460469231731687303715884105728 = z := ⟨_, rfl⟩
        have hBb : B = nh / 9223372036854775808 := by rw [← hB]; unfold V; omega
        obtain ⟨s1, s2, s3⟩ := dv_round hn0.1 hn0.2 hB HP.out HM.out
        rw [← pow2_succ] at s1
        have hMb2 : k + 1 = 128 ∨ 2 * M + B < 340282366920938463463374607431768211456 := by
          by_cases hk7 : k + 1 = 128
          · exact .inl hk7
          · refine .inr ?_
            obtain ⟨p, hp⟩ : ∃ p : Nat, 2 ^ (k + 1) = p := ⟨_, rfl⟩
            have hpb : p ≤ 170141183460469231731687303715884105728 := by
              rw [← hp, show (170141183460469231731687303715884105728 : Nat) = 2 ^ 127 by decide]
              exact Nat.pow_le_pow_right (by decide) (by omega)
            have s4 := s1
            rw [hp] at s4
            have hnn := HND.out
            have h9 := Int.mul_le_mul (show n ≤ 340282366920938463463374607431768211455 by omega) (show (p : Int) ≤ 170141183460469231731687303715884105728 by omega) (by omega) (by omega)
            clear s1 s2 s3 hp
            have h10 : 0 ≤ 2 * V nh nl % 340282366920938463463374607431768211456 := Int.emod_nonneg _ (by decide)
            omega
        obtain ⟨Ar, hAr⟩ : ∃ z, rh * 2 % 18446744073709551616 = z := ⟨_, rfl⟩
        obtain ⟨Cr, hCr⟩ : ∃ z, rl / 9223372036854775808 = z := ⟨_, rfl⟩
        obtain ⟨Lr, hLr⟩ : ∃ z, rl * 2 % 18446744073709551616 = z := ⟨_, rfl⟩
        obtain ⟨Ur, hUr⟩ : ∃ z, Ar + Cr = z := ⟨_, rfl⟩
        have zr1 : ∀ [Inhabited Unit], IntKind.u64.wrap (rh * 2) = Ar := by intro _; rw [wrapU]; exact hAr
        have zr2 : ∀ [Inhabited Unit], rl / 9223372036854775808 = Cr := by intro _; exact hCr
        have zr3 : ∀ [Inhabited Unit], IntKind.u64.wrap (rl * 2) = Lr := by intro _; rw [wrapU]; exact hLr
        have zr4 : ∀ [Inhabited Unit], bits BinOp.or IntKind.u64 Ar Cr = Ur := by intro _; rw [or_bit _ _ (by omega) (by omega) (by omega)]; exact hUr
        obtain ⟨An, hAn⟩ : ∃ z, nh * 2 % 18446744073709551616 = z := ⟨_, rfl⟩
        obtain ⟨Cn, hCn⟩ : ∃ z, nl / 9223372036854775808 = z := ⟨_, rfl⟩
        obtain ⟨Ln, hLn⟩ : ∃ z, nl * 2 % 18446744073709551616 = z := ⟨_, rfl⟩
        obtain ⟨Un, hUn⟩ : ∃ z, An + Cn = z := ⟨_, rfl⟩
        have zn1 : ∀ [Inhabited Unit], IntKind.u64.wrap (nh * 2) = An := by intro _; rw [wrapU]; exact hAn
        have zn2 : ∀ [Inhabited Unit], nl / 9223372036854775808 = Cn := by intro _; exact hCn
        have zn3 : ∀ [Inhabited Unit], IntKind.u64.wrap (nl * 2) = Ln := by intro _; rw [wrapU]; exact hLn
        have zn4 : ∀ [Inhabited Unit], bits BinOp.or IntKind.u64 An Cn = Un := by intro _; rw [or_bit _ _ (by omega) (by omega) (by omega)]; exact hUn
        obtain ⟨Aq, hAq⟩ : ∃ z, qh * 2 % 18446744073709551616 = z := ⟨_, rfl⟩
        obtain ⟨Cq, hCq⟩ : ∃ z, ql / 9223372036854775808 = z := ⟨_, rfl⟩
        obtain ⟨Lq, hLq⟩ : ∃ z, ql * 2 % 18446744073709551616 = z := ⟨_, rfl⟩
        obtain ⟨Uq, hUq⟩ : ∃ z, Aq + Cq = z := ⟨_, rfl⟩
        have zq1 : ∀ [Inhabited Unit], IntKind.u64.wrap (qh * 2) = Aq := by intro _; rw [wrapU]; exact hAq
        have zq2 : ∀ [Inhabited Unit], ql / 9223372036854775808 = Cq := by intro _; exact hCq
        have zq3 : ∀ [Inhabited Unit], IntKind.u64.wrap (ql * 2) = Lq := by intro _; rw [wrapU]; exact hLq
        have zq4 : ∀ [Inhabited Unit], bits BinOp.or IntKind.u64 Aq Cq = Uq := by intro _; rw [or_bit _ _ (by omega) (by omega) (by omega)]; exact hUq
        have zb : ∀ [Inhabited Unit], nh / 9223372036854775808 = B := by intro _; exact hBb.symm
        obtain ⟨Rl, hRl⟩ : ∃ z, Lr + B = z := ⟨_, rfl⟩
        have zb2 : ∀ [Inhabited Unit], bits BinOp.or IntKind.u64 Lr B = Rl := by intro _; rw [or_bit _ _ (by omega) (by omega) (by omega)]; exact hRl
        have vR : V Ur Rl = 2 * V rh rl + B := by unfold V at hR hr0 ⊢; omega
        have vN : V Un Ln = 2 * V nh nl % 340282366920938463463374607431768211456 := by unfold V; omega
        have vQ : V Uq Lq = 2 * V qh ql := by unfold V at hqs ⊢; omega
        rw [← vR] at s2 s3
        rw [← vN] at s1
        rw [← vQ] at s2 s3
        have u1 : 0 ≤ Ur ∧ Ur ≤ 18446744073709551615 ∧ 0 ≤ Rl ∧ Rl ≤ 18446744073709551615 := by omega
        have u2 : 0 ≤ Un ∧ Un ≤ 18446744073709551615 ∧ 0 ≤ Ln ∧ Ln ≤ 18446744073709551615 := by omega
        have u3 : 0 ≤ Uq ∧ Uq ≤ 18446744073709551615 ∧ 0 ≤ Lq ∧ Lq ≤ 18446744073709551614 ∧ Lq % 2 = 0 := by omega
        have HLS := fun w => Lib.hid (less_any Ur Rl d1 d2 w u1.2.2.1 u1.2.2.2 bd2.1 bd2.2)
        rw [HED.out] at HLS
        have hr1 : V rh rl < d := hR
        have hrB : 2 * V rh rl + B < 2 * d := by omega
        rw [← vR] at hrB
        have HSS := fun w => Lib.hid (szsub_any Ur Rl d1 d2 w u1.1 u1.2.1 u1.2.2.1 u1.2.2.2 (by omega) (by omega) bd2.1 bd2.2)
        rw [HED.out] at HSS
        have HU := Lib.hid (And.intro u1 (And.intro u2 u3))
        have HS1 := Lib.hid s1
        have HS2 := Lib.hid s2
        have HS3 := Lib.hid s3
        have HMB2 := Lib.hid hMb2
        have HRB := Lib.hid hrB
        have HK8 := Lib.hid hk8
        have HK := Lib.hid hk
        clear hI hk hk8 g1 g2 g3 g4 g5 g6 g7 g8 g9 g10 g11 g12 hdd hR hMm hr0 hq0 hqs hqh hn0 hB hBb s1 s2 s3 hMb2 hAr hCr hLr hUr hAn hCn hLn hUn hAq hCq hLq hUq hRl vR vN vQ u1 u2 u3 hr1 hrB HB HP HM HR HMB
        have Y0 := HX0.out
        have Y1 := HX1.out
        have Y2 := HX2.out
        have Y3 := HX3.out
        clear HX0 HX1 HX2 HX3
        go_upto_region 11 with fail
        have Z0 := box_far (box_set (box_far Y0 (b2 := (w.heap.size + 1 + 1 + 1)) (by omega) (.int .u64 Ur) (.int .u64 Rl)) (.int .u64 Un) (.int .u64 Ln)) (b2 := (w.heap.size + 1 + 1)) (by omega) (.int .u64 Uq) (.int .u64 Lq)
        have Z1 := box_far (box_far (box_far Y1 (b2 := (w.heap.size + 1 + 1 + 1)) (by omega) (.int .u64 Ur) (.int .u64 Rl)) (b2 := w.heap.size) (by omega) (.int .u64 Un) (.int .u64 Ln)) (b2 := (w.heap.size + 1 + 1)) (by omega) (.int .u64 Uq) (.int .u64 Lq)
        have Z2 := box_set (box_far (box_far Y2 (b2 := (w.heap.size + 1 + 1 + 1)) (by omega) (.int .u64 Ur) (.int .u64 Rl)) (b2 := w.heap.size) (by omega) (.int .u64 Un) (.int .u64 Ln)) (.int .u64 Uq) (.int .u64 Lq)
        have Z3 := box_far (box_far (box_set Y3 (.int .u64 Ur) (.int .u64 Rl)) (b2 := w.heap.size) (by omega) (.int .u64 Un) (.int .u64 Ln)) (b2 := (w.heap.size + 1 + 1)) (by omega) (.int .u64 Uq) (.int .u64 Lq)
        have hW1 := below_set2 (below_set2 (below_set2 HW.out.1 (b := (w.heap.size + 1 + 1 + 1)) (by omega) (.int .u64 Ur) (.int .u64 Rl)) (b := w.heap.size) (Nat.le_refl _) (.int .u64 Un) (.int .u64 Ln)) (b := (w.heap.size + 1 + 1)) (by omega) (.int .u64 Uq) (.int .u64 Lq)
        have hS1 : (((((((wi).setCell ⟨(w.heap.size + 1 + 1 + 1), 0, none⟩ (.int .u64 Ur)).setCell ⟨(w.heap.size + 1 + 1 + 1), 1, none⟩ (.int .u64 Rl)).setCell ⟨w.heap.size, 0, none⟩ (.int .u64 Un)).setCell ⟨w.heap.size, 1, none⟩ (.int .u64 Ln)).setCell ⟨(w.heap.size + 1 + 1), 0, none⟩ (.int .u64 Uq)).setCell ⟨(w.heap.size + 1 + 1), 1, none⟩ (.int .u64 Lq)).heap.size = wi.heap.size := by rw [size_set2, size_set2, size_set2]
        clear a0 a1 af0 af1 b0 b1 bf0 bf1 q0 q1 qf0 qf1 r0 r1 rf0 rf1 Y0 Y1 Y2 Y3 zr1 zr2 zr3 zr4 zn1 zn2 zn3 zn4 zq1 zq2 zq3 zq4 zb zb2
        generalize ((((((wi).setCell ⟨(w.heap.size + 1 + 1 + 1), 0, none⟩ (.int .u64 Ur)).setCell ⟨(w.heap.size + 1 + 1 + 1), 1, none⟩ (.int .u64 Rl)).setCell ⟨w.heap.size, 0, none⟩ (.int .u64 Un)).setCell ⟨w.heap.size, 1, none⟩ (.int .u64 Ln)).setCell ⟨(w.heap.size + 1 + 1), 0, none⟩ (.int .u64 Uq)).setCell ⟨(w.heap.size + 1 + 1), 1, none⟩ (.int .u64 Lq) = W1 at Z0 Z1 Z2 Z3 hW1 hS1 ⊢
        rw [← hS1] at hsz
        have HW1 := Lib.hid hW1
        clear hW1 hS1 HW
        have Y0 := Z0
        have Y1 := Z1
        have Y2 := Z2
        have Y3 := Z3
        clear Z0 Z1 Z2 Z3
        obtain ⟨a0, a1, af0, af1⟩ := id Y0
        obtain ⟨b0, b1, bf0, bf1⟩ := id Y1
        obtain ⟨q0, q1, qf0, qf1⟩ := id Y2
        obtain ⟨r0, r1, rf0, rf1⟩ := id Y3
        by_cases hlt : V Ur Rl < d
        · as_aux_lemma =>
            rw [decide_eq_true hlt] at HLS
            have HLT := Lib.hid hlt
            clear hlt HSS
            go_wp2_with (go_at_call 51; refine (HLS _).out.mono ?_; rintro e w4 ⟨rfl, hb4⟩; have Y0 := Y0.below hb4 (by omega); have Y1 := Y1.below hb4 (by omega); have Y2 := Y2.below hb4 (by omega); have Y3 := Y3.below hb4 (by omega); have hs4 := hb4.size; have HW4 : Hid (Below w.heap.size w w4 ∧ w.heap.size + 1 + 1 + 1 < w4.heap.size) := Lib.hid ⟨HW1.out.trans (hb4.mono (by omega)), by omega⟩; clear hb4; (try clear a0 a1 af0 af1 b0 b1 bf0 bf1 q0 q1 qf0 qf1 r0 r1 rf0 rf1); obtain ⟨a0, a1, af0, af1⟩ := Y0; obtain ⟨b0, b1, bf0, bf1⟩ := Y1; obtain ⟨q0, q1, qf0, qf1⟩ := Y2; obtain ⟨r0, r1, rf0, rf1⟩ := Y3; have Y0 : Box2 _ w.heap.size (.int .u64 Un) (.int .u64 Ln) := ⟨a0, a1, af0, af1⟩; have Y1 : Box2 _ (w.heap.size + 1) (.int .u64 d1) (.int .u64 d2) := ⟨b0, b1, bf0, bf1⟩; have Y2 : Box2 _ (w.heap.size + 1 + 1) (.int .u64 Uq) (.int .u64 Lq) := ⟨q0, q1, qf0, qf1⟩; have Y3 : Box2 _ (w.heap.size + 1 + 1 + 1) (.int .u64 Ur) (.int .u64 Rl) := ⟨r0, r1, rf0, rf1⟩)
            go_roundw
            case rel => exact ⟨k + 1, _, Un, Ln, Uq, Lq, Ur, Rl, _, by (have := HK.out; have := HK8.out; omega), by go_num, by (have := HI.out; have := HWI.out; omega), Lib.hid (by have := HU.out; exact ⟨by omega, by omega, by omega, by omega, by omega, by omega, by omega, by omega, by omega, by omega, by omega, by omega⟩), HS1, HS2, HLT, HMB2, Lib.hid Y0, Lib.hid Y1, Lib.hid Y2, Lib.hid Y3, HW4⟩
            case measure =>
              have := HWI.out
              simp [intOf]
              omega
        · as_aux_lemma =>
            rw [decide_eq_false hlt] at HLS
            have hm : (V Ur Rl - d) % 340282366920938463463374607431768211456 = V Ur Rl - d := by have := HDD.out; have := HRB.out; omega
            rw [hm] at HSS
            obtain ⟨S1, hS1⟩ : ∃ z, (V Ur Rl - d) / 18446744073709551616 = z := ⟨_, rfl⟩
            obtain ⟨S2, hS2⟩ : ∃ z, (V Ur Rl - d) % 18446744073709551616 = z := ⟨_, rfl⟩
            have vS : V S1 S2 = V Ur Rl - d := by unfold V at hS1 hS2 ⊢; omega
            have bS : 0 ≤ S1 ∧ S1 ≤ 18446744073709551615 ∧ 0 ≤ S2 ∧ S2 ≤ 18446744073709551615 := by have := HU.out; have := HDD.out; unfold V at hS1 hS2 hlt; omega
            rw [hS1, hS2] at HSS
            have HS4 := HS3.out
            rw [← vS] at HS4
            have eU : V Uq (Lq + 1) = V Uq Lq + 1 := by unfold V; omega
            have HS5 : Hid (2 * M + B = V Uq (Lq + 1) * d + V S1 S2) := Lib.hid (by rw [eU]; exact HS4)
            clear eU
            have HLT : Hid (V S1 S2 < d) := Lib.hid (by rw [vS]; have := HRB.out; omega)
            have zo : ∀ [Inhabited Unit], bits BinOp.or IntKind.u64 Lq 1 = Lq + 1 := by intro _; have := HU.out; exact or_bit _ _ (by omega) (by omega) (by omega)
            have HBS := Lib.hid bS
            clear hm hS1 hS2 vS bS HS4 hlt
            go_wp2_with (first | (go_at_call 51; refine (HLS _).out.mono ?_; rintro e w4 ⟨rfl, hb4⟩; have Y0 := Y0.below hb4 (by omega); have Y1 := Y1.below hb4 (by omega); have Y2 := Y2.below hb4 (by omega); have Y3 := Y3.below hb4 (by omega); have hs4 := hb4.size; have HW4 : Hid (Below w.heap.size w w4 ∧ w.heap.size + 1 + 1 + 1 < w4.heap.size) := Lib.hid ⟨HW1.out.trans (hb4.mono (by omega)), by omega⟩; clear hb4; (try clear a0 a1 af0 af1 b0 b1 bf0 bf1 q0 q1 qf0 qf1 r0 r1 rf0 rf1); obtain ⟨a0, a1, af0, af1⟩ := Y0; obtain ⟨b0, b1, bf0, bf1⟩ := Y1; obtain ⟨q0, q1, qf0, qf1⟩ := Y2; obtain ⟨r0, r1, rf0, rf1⟩ := Y3; have Y0 : Box2 _ w.heap.size (.int .u64 Un) (.int .u64 Ln) := ⟨a0, a1, af0, af1⟩; have Y1 : Box2 _ (w.heap.size + 1) (.int .u64 d1) (.int .u64 d2) := ⟨b0, b1, bf0, bf1⟩; have Y2 : Box2 _ (w.heap.size + 1 + 1) (.int .u64 Uq) (.int .u64 Lq) := ⟨q0, q1, qf0, qf1⟩; have Y3 : Box2 _ (w.heap.size + 1 + 1 + 1) (.int .u64 Ur) (.int .u64 Rl) := ⟨r0, r1, rf0, rf1⟩) | (go_at_call 50; refine (HSS _).out.mono ?_; rintro e w5 ⟨rfl, hb5⟩; have Y0 := Y0.below hb5 (by omega); have Y1 := Y1.below hb5 (by omega); have Y2 := Y2.below hb5 (by omega); have Y3 := Y3.below hb5 (by omega); have hs5 := hb5.size; have HW5 : Hid (Below w.heap.size w w5 ∧ w.heap.size + 1 + 1 + 1 < w5.heap.size) := Lib.hid ⟨HW4.out.1.trans (hb5.mono (by omega)), by omega⟩; clear hb5; (try clear a0 a1 af0 af1 b0 b1 bf0 bf1 q0 q1 qf0 qf1 r0 r1 rf0 rf1); obtain ⟨a0, a1, af0, af1⟩ := Y0; obtain ⟨b0, b1, bf0, bf1⟩ := Y1; obtain ⟨q0, q1, qf0, qf1⟩ := Y2; obtain ⟨r0, r1, rf0, rf1⟩ := Y3; have Y0 : Box2 _ w.heap.size (.int .u64 Un) (.int .u64 Ln) := ⟨a0, a1, af0, af1⟩; have Y1 : Box2 _ (w.heap.size + 1) (.int .u64 d1) (.int .u64 d2) := ⟨b0, b1, bf0, bf1⟩; have Y2 : Box2 _ (w.heap.size + 1 + 1) (.int .u64 Uq) (.int .u64 Lq) := ⟨q0, q1, qf0, qf1⟩; have Y3 : Box2 _ (w.heap.size + 1 + 1 + 1) (.int .u64 Ur) (.int .u64 Rl) := ⟨r0, r1, rf0, rf1⟩))
            go_roundw
            case rel => exact ⟨k + 1, _, Un, Ln, Uq, Lq + 1, S1, S2, _, by (have := HK.out; have := HK8.out; omega), by go_num, by (have := HI.out; have := HWI.out; omega), Lib.hid (by have := HU.out; have := HBS.out; exact ⟨by omega, by omega, by omega, by omega, by omega, by omega, by omega, by omega, by omega, by omega, by omega, by omega⟩), HS1, HS5, HLT, HMB2, Lib.hid (by clear Y0 Y1 Y2 Y3; constructor <;> go_simp), Lib.hid (by clear Y0 Y1 Y2 Y3; constructor <;> go_simp), Lib.hid (by clear Y0 Y1 Y2 Y3; constructor <;> go_simp), Lib.hid (by clear Y0 Y1 Y2 Y3; constructor <;> go_simp), Lib.hid ⟨(below_set2 HW5.out.1 (b := w.heap.size + 1 + 1 + 1) (by omega) _ _).setCell (p := ⟨w.heap.size + 1 + 1, 1, none⟩) (by show w.heap.size ≤ w.heap.size + 1 + 1; omega) _, by simp; exact HW5.out.2⟩⟩
            case measure =>
              have := HWI.out
              simp [intOf]
              omega
end Go.Proofs.Ytlbmpdidmckgkaa
