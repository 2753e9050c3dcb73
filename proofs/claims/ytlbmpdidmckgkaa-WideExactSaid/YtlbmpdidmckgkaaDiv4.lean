/- Walks: quotients by a divisor of one word; what Round and Down tell by whatever divide. -/
import Derived.Test.YtlbmpdidmckgkaaWide9
import Derived.Test.YtlbmpdidmckgkaaDiv3
import Derived.WalkMore
set_option linter.unusedVariables false
set_option linter.unusedSimpArgs false
namespace Go.Proofs.Ytlbmpdidmckgkaa
open Go.RowKit Go.Rt

theorem div64_any (hi lo y : Int) (w : World) (k0 : 0 ≤ hi) (k1 : hi < y) (l0 : 0 ≤ lo) (l1 : lo ≤ 18446744073709551615) (y1 : y ≤ 18446744073709551615) :
    Calls Try.prog 78 #[.int .u64 hi, .int .u64 lo, .int .u64 y] w fun e w' => e = .returned (.tuple #[.int .u64 ((hi * 18446744073709551616 + lo) / y), .int .u64 ((hi * 18446744073709551616 + lo) % y)]) ∧ Below w.heap.size w w' := by
  by_cases h : hi = 0
  · subst h
    have := div0_any lo y w l0 l1 (by omega) y1
    rwa [Int.zero_mul, Int.zero_add]
  · exact div64_hi hi lo y w (by omega) k1 l0 l1 y1

/-- What divide tells. -/
def Div (n d : Int) (w : World) : Prop := Calls Try.prog 67 #[.agg #[.int .u64 (n / 18446744073709551616), .int .u64 (n % 18446744073709551616)], .agg #[.int .u64 (d / 18446744073709551616), .int .u64 (d % 18446744073709551616)]] w fun e w' => e = .returned (.tuple #[.agg #[.int .u64 ((n / d) / 18446744073709551616), .int .u64 ((n / d) % 18446744073709551616)], .agg #[.int .u64 ((n % d) / 18446744073709551616), .int .u64 ((n % d) % 18446744073709551616)]]) ∧ Below w.heap.size w w'

theorem two_steps (a1 a2 d : Int) (h1 : 0 ≤ a1) (h2 : 0 ≤ a2) (h3 : a2 < 18446744073709551616) (d0 : 1 ≤ d) :
    (a1 * 18446744073709551616 + a2) / d / 18446744073709551616 = a1 / d ∧ (a1 * 18446744073709551616 + a2) / d % 18446744073709551616 = (a1 % d * 18446744073709551616 + a2) / d ∧ (a1 * 18446744073709551616 + a2) % d = (a1 % d * 18446744073709551616 + a2) % d := by
  have e1 := Int.mul_ediv_add_emod a1 d
  have r0 : 0 ≤ a1 % d := Int.emod_nonneg _ (by omega)
  have r1 : a1 % d < d := Int.emod_lt_of_pos _ (by omega)
  obtain ⟨Q1, hQ1⟩ : ∃ q, a1 / d = q := ⟨_, rfl⟩
  obtain ⟨R1, hR1⟩ : ∃ q, a1 % d = q := ⟨_, rfl⟩
  rw [hQ1, hR1] at e1
  rw [hR1] at r0 r1
  rw [hQ1, hR1]
  have e0 := Int.mul_ediv_add_emod (R1 * 18446744073709551616 + a2) d
  have s0 : 0 ≤ (R1 * 18446744073709551616 + a2) % d := Int.emod_nonneg _ (by omega)
  have s1 : (R1 * 18446744073709551616 + a2) % d < d := Int.emod_lt_of_pos _ (by omega)
  have q1 : (R1 * 18446744073709551616 + a2) / d < 18446744073709551616 := Int.ediv_lt_of_lt_mul (by omega) (by omega)
  have q0 : 0 ≤ (R1 * 18446744073709551616 + a2) / d := Int.ediv_nonneg (by omega) (by omega)
  obtain ⟨Q0, hQ0⟩ : ∃ q, (R1 * 18446744073709551616 + a2) / d = q := ⟨_, rfl⟩
  obtain ⟨R0, hR0⟩ : ∃ q, (R1 * 18446744073709551616 + a2) % d = q := ⟨_, rfl⟩
  rw [hQ0, hR0] at e0
  rw [hQ0] at q0 q1
  rw [hR0] at s0 s1
  rw [hQ0, hR0]
  obtain ⟨hq, hr⟩ := norm_told (a1 * 18446744073709551616 + a2) d 1 (Q1 * 18446744073709551616 + Q0) R0 (by omega) (by rw [Int.mul_one, Int.mul_one, Int.add_mul, Int.mul_right_comm, Int.mul_comm Q1 d, Int.mul_comm Q0 d]; omega) s0 (by omega)
  rw [Int.ediv_one] at hr
  rw [← hq, ← hr]
  exact ⟨by omega, by omega, rfl⟩

set_option maxHeartbeats 1000000 in
theorem divide_lo (n d : Int) (w : World) (n0 : 0 ≤ n) (n1 : n < 340282366920938463463374607431768211456) (d0 : 1 ≤ d) (d1 : d < 18446744073709551616) : Div n d w := by
  unfold Div
  obtain ⟨a1, ha1⟩ : ∃ q, n / 18446744073709551616 = q := ⟨_, rfl⟩
  obtain ⟨a2, ha2⟩ : ∃ q, n % 18446744073709551616 = q := ⟨_, rfl⟩
  obtain ⟨f1, f2, f3⟩ := two_steps a1 a2 d (by omega) (by omega) (by omega) d0
  have hn : n = a1 * 18446744073709551616 + a2 := by omega
  rw [← hn] at f1 f2 f3
  have g1 : d / 18446744073709551616 = 0 := by omega
  have g2 : d % 18446744073709551616 = d := by omega
  have r0 : 0 ≤ a1 % d := Int.emod_nonneg _ (by omega)
  have r1 : a1 % d < d := Int.emod_lt_of_pos _ (by omega)
  have s0 : 0 ≤ n % d := Int.emod_nonneg _ (by omega)
  have s1 : n % d < d := Int.emod_lt_of_pos _ (by omega)
  have hd1 := fun w => Lib.hid (div64_any 0 a1 d w (by omega) (by omega) (by omega) (by omega) (by omega))
  have hd2 := fun w => Lib.hid (div64_any (a1 % d) a2 d w r0 r1 (by omega) (by omega) (by omega))
  rw [Int.zero_mul, Int.zero_add] at hd1
  rw [← f2, ← f3] at hd2
  rw [f1]
  have g3 : n % d / 18446744073709551616 = 0 := by omega
  have g4 : n % d % 18446744073709551616 = n % d := by omega
  rw [g1, g2, g3, g4, ha1, ha2]
  obtain ⟨Q1, hQ1⟩ : ∃ y, a1 / d = y := ⟨_, rfl⟩
  obtain ⟨R1, hR1⟩ : ∃ y, a1 % d = y := ⟨_, rfl⟩
  obtain ⟨Q0, hQ0⟩ : ∃ y, n / d % 18446744073709551616 = y := ⟨_, rfl⟩
  obtain ⟨R0, hR0⟩ : ∃ y, n % d = y := ⟨_, rfl⟩
  rw [hQ1, hR1] at hd1
  rw [hR1, hQ0, hR0] at hd2
  rw [hQ1, hQ0, hR0]
  clear f1 f2 f3 hn g1 g2 g3 g4 r0 r1 s0 s1 ha1 ha2 hQ1 hR1 hQ0 hR0
  have M1 := True.intro
  go_enter Try.func67, Try.ntmps67
  go_wp2
  go_step3
  go_wp2_with (first
    | (go_at_call 78; have hmk := M1; clear hmk M1; go_loud (refine (hd1 _).out.mono ?_; rintro e w1 ⟨rfl, hb⟩; have HB1 := Lib.hid hb; have hs1 := hb.size; (try simp at hs1); have X0 := Box2.below (b := w.heap.size) (v0 := (.int .u64 a1)) (v1 := (.int .u64 a2)) (by constructor <;> go_simp) hb (by first | omega | (simp <;> omega)); have HX0 := Lib.hid X0; obtain ⟨ac0, ac1, af0, af1⟩ := X0; have X1 := Box2.below (b := w.heap.size + 1) (v0 := (.int .u64 0)) (v1 := (.int .u64 d)) (by constructor <;> go_simp) hb (by first | omega | (simp <;> omega)); have HX1 := Lib.hid X1; obtain ⟨bc0, bc1, bf0, bf1⟩ := X1; have X2 := Box2.below (b := w.heap.size + 1 + 1) (v0 := (.int .u64 0)) (v1 := (.int .u64 0)) (by constructor <;> go_simp) hb (by first | omega | (simp <;> omega)); have HX2 := Lib.hid X2; obtain ⟨cc0, cc1, cf0, cf1⟩ := X2; have X3 := Box2.below (b := w.heap.size + 1 + 1 + 1) (v0 := (.int .u64 0)) (v1 := (.int .u64 0)) (by constructor <;> go_simp) hb (by first | omega | (simp <;> omega)); have HX3 := Lib.hid X3; obtain ⟨dc0, dc1, df0, df1⟩ := X3; clear hb))
    | (go_at_call 78; go_loud (refine (hd2 _).out.mono ?_; rintro e w2 ⟨rfl, hb⟩; have HB2 := Lib.hid hb; have hs2 := hb.size; (try simp at hs2); have Y0 := Box2.below (b := w.heap.size) (v0 := (.int .u64 a1)) (v1 := (.int .u64 a2)) (by constructor <;> go_simp) hb (by first | omega | (simp <;> omega)); obtain ⟨mc0, mc1, mf0, mf1⟩ := Y0; have Y1 := Box2.below (b := w.heap.size + 1) (v0 := (.int .u64 0)) (v1 := (.int .u64 d)) (by constructor <;> go_simp) hb (by first | omega | (simp <;> omega)); obtain ⟨nc0, nc1, nf0, nf1⟩ := Y1; have Y2 := Box2.below (b := w.heap.size + 1 + 1) (v0 := (.int .u64 Q1)) (v1 := (.int .u64 0)) (by constructor <;> go_simp) hb (by first | omega | (simp <;> omega)); obtain ⟨pc0, pc1, pf0, pf1⟩ := Y2; have Y3 := Box2.below (b := w.heap.size + 1 + 1 + 1) (v0 := (.int .u64 0)) (v1 := (.int .u64 0)) (by constructor <;> go_simp) hb (by first | omega | (simp <;> omega)); obtain ⟨qc0, qc1, qf0, qf1⟩ := Y3; clear hb)))
  (try simp only [Exit.noGoto, Exit.inBlock, Exit.then])
  refine bodyPost_ret (v := .tuple #[.agg #[.int .u64 Q1, .int .u64 Q0], .agg #[.int .u64 0, .int .u64 R0]]) (by rw [results_cc rfl]; go_simp) rfl ⟨rfl, ?_⟩
  iterate 5 refine Below.setCell ?_ (by first | omega | (simp <;> omega)) _
  exact Below.trans (by (repeat' (first | exact Below.refl _ _ | refine Below.drew ?_ | refine Below.setCell ?_ (by first | omega | (simp <;> omega)) _ | refine Below.alloc ?_ (by first | omega | (simp <;> omega)) _))) (Below.trans (HB1.out.mono (by first | omega | (simp <;> omega))) (Below.trans (by (repeat' (first | exact Below.refl _ _ | refine Below.drew ?_ | refine Below.setCell ?_ (by first | omega | (simp <;> omega)) _ | refine Below.alloc ?_ (by first | omega | (simp <;> omega)) _))) (HB2.out.mono (by first | omega | (simp <;> omega)))))
end Go.Proofs.Ytlbmpdidmckgkaa
