/- Walks: reduce.closed. -/
import Derived.Test.YtmjcpgfekpedkaaRdS
import Derived.Test.YtmjcpgfekpedkaaRdQ
set_option linter.unusedVariables false
set_option linter.unusedSimpArgs false
namespace Go.Proofs.Ytmjcpgfekpedkaa
open Go.RowKit Go.Rt
/-- One box, made in a drawn region. -/
theorem Fr.one {W w1 : World} (hb : Below W.heap.size W w1) {b : Nat} {vs : List Value} {T : TypeId} (h1 : W.heap.size ≤ b) (o1 : w1.heap[b]? = some (.cells vs.toArray T)) : Fr W.heap.size W w1 [(b, vs)] [] [] [] := by
  refine ⟨hb.size, hb, fun p hp => ?_, List.pairwise_singleton _ _, by simp, by simp, by simp, .nil, by simp, .nil⟩
  obtain rfl := List.mem_singleton.1 hp
  exact ⟨BoxL.of_obj o1, h1, (Array.getElem?_eq_some_iff.1 o1).1⟩
/-- wide.Round by a number from 1 to 65536. -/
theorem round_cn {s : Int} {cn : Nat} (hs : s.natAbs ≤ 65536 * 140737488355328) (h1 : 1 ≤ cn) (h2 : cn ≤ 65536) : inR (roundI s cn) ∧ ∀ w, Calls Try.prog 37 #[.agg #[.int .i64 (s / 18446744073709551616), .int .u64 (s % 18446744073709551616)], .agg #[.int .i64 ((cn : Int) / 9223372036854775808), .int .u64 ((cn : Int) % 18446744073709551616)]] w (RetWE w (roundI s cn / 18446744073709551616) (roundI s cn % 18446744073709551616) 0) := by
  have hin : inR s := by unfold inR; omega
  have b1 := mean_le (s := s) (n := (cn : Int)) (hi := 9223372036854775808) (by omega) (by have := Int.mul_le_mul_of_nonneg_left (show (1 : Int) ≤ cn by omega) (show (0 : Int) ≤ 9223372036854775808 by decide); omega)
  have b2 := mean_ge (s := s) (n := (cn : Int)) (lo := -9223372036854775808) (by omega) (by have := Int.mul_le_mul_of_nonneg_left (show (1 : Int) ≤ cn by omega) (show (0 : Int) ≤ 9223372036854775808 by decide); rw [Int.neg_mul]; omega)
  have hr : inR (roundI s cn) := by unfold inR; omega
  have hc := V_from (y := (cn : Int)) (by omega) (by omega)
  refine ⟨hr, fun w => ?_⟩
  have hA : A (s / 18446744073709551616) (s % 18446744073709551616) < 340282366920938463463374607431768211456 ∧ 0 ≤ A (s / 18446744073709551616) (s % 18446744073709551616) := by
    unfold A
    rw [V_split]
    unfold inR at hin
    split <;> omega
  have hA2 : A ((cn : Int) / 9223372036854775808) ((cn : Int) % 18446744073709551616) = cn := by
    unfold A
    rw [hc.1]
    split <;> omega
  have h := (round_of (s / 18446744073709551616) (s % 18446744073709551616) ((cn : Int) / 9223372036854775808) ((cn : Int) % 18446744073709551616) w (WR_split hin) hc.2 (by omega) (fun w => by rw [hA2]; exact divide_lo _ _ w hA.2 hA.1 (by omega) (by omega))).1
  rw [V_split, hc.1] at h
  exact h hr

end Go.Proofs.Ytmjcpgfekpedkaa
