/- Walks: rng.Seed and the page's Seed: the same four words. -/
import Derived.Test.YtiejkdnkdmanmaaRngW9
set_option linter.unusedVariables false
set_option linter.unusedSimpArgs false
namespace Go.Proofs.Ytiejkdnkdmanmaa
open Go.RowKit Go.Rt

def seedN (n : Int) : Nat → Int
  | 0 => n
  | k + 1 => IntKind.u64.wrap (seedN n k + 11400714819323198485)
def mixA (z : Int) : Int := IntKind.u64.wrap (bits .xor .u64 z (z / 1073741824) * 13787848793156543929)
def mixB (z : Int) : Int := IntKind.u64.wrap (bits .xor .u64 z (z / 134217728) * 10723151780598845931)
def seedV (n : Int) (k : Nat) : Int := bits .xor .u64 (mixB (mixA (seedN n (k + 1)))) (mixB (mixA (seedN n (k + 1))) / 2147483648)
def seedS (n : Int) : St := ⟨(seedV n 0).toNat, (seedV n 1).toNat, (seedV n 2).toNat, (seedV n 3).toNat⟩
theorem wrap_bounds (z : Int) : 0 ≤ IntKind.u64.wrap z ∧ IntKind.u64.wrap z ≤ 18446744073709551615 := by rw [wrap_u64]; omega
theorem seedV_bounds (n : Int) (k : Nat) : 0 ≤ seedV n k ∧ seedV n k ≤ 18446744073709551615 := by
  have h : ∀ (op : BinOp) (a b : Int), ∃ z, bits op .u64 a b = IntKind.u64.wrap z := fun op a b => ⟨_, rfl⟩
  unfold seedV
  obtain ⟨z, hz⟩ := h .xor (mixB (mixA (seedN n (k + 1)))) (mixB (mixA (seedN n (k + 1))) / 2147483648)
  rw [hz]
  exact wrap_bounds z
theorem seedN_bounds {n : Int} (h0 : 0 ≤ n) (h1 : n ≤ 18446744073709551615) : ∀ k, 0 ≤ seedN n k ∧ seedN n k ≤ 18446744073709551615
  | 0 => ⟨h0, h1⟩
  | k + 1 => wrap_bounds _
def seedC (n : Int) (k i : Nat) : Value := .int .u64 (if i < k then seedV n i else 0)
theorem seedC_lt {n : Int} {k i : Nat} (h : i < k) : seedC n k i = .int .u64 (seedV n i) := by unfold seedC; rw [if_pos h]
theorem seedC_ge {n : Int} {k i : Nat} (h : ¬ i < k) : seedC n k i = .int .u64 0 := by unfold seedC; rw [if_neg h]
theorem seedC_all (n : Int) : seedC n 4 0 = .int .u64 ((seedS n).a : Nat) ∧ seedC n 4 1 = .int .u64 ((seedS n).b : Nat) ∧ seedC n 4 2 = .int .u64 ((seedS n).c : Nat) ∧ seedC n 4 3 = .int .u64 ((seedS n).d : Nat) := by
  have e : ∀ i, i < 4 → seedC n 4 i = .int .u64 (((seedV n i).toNat : Nat) : Int) := fun i hi => by
    have := seedV_bounds n i
    rw [seedC_lt hi]
    have h2 : (((seedV n i).toNat : Nat) : Int) = seedV n i := by omega
    rw [h2]
  exact ⟨e 0 (by omega), e 1 (by omega), e 2 (by omega), e 3 (by omega)⟩


set_option maxRecDepth 100000 in
set_option maxHeartbeats 1000000 in
theorem seed_any (n : Int) (w : World) (h0 : 0 ≤ n) (h1 : n ≤ 18446744073709551615) :
    Calls Try.prog 23 #[.int .u64 n] w fun e w' => e = .returned (.agg #[.slice none 0 0, .int .u64 ((seedS n).a : Nat), .int .u64 ((seedS n).b : Nat), .int .u64 ((seedS n).c : Nat), .int .u64 ((seedS n).d : Nat)]) ∧ Below w.heap.size w w' := by
  have HNB := Lib.hid (seedN_bounds h0 h1)
  clear h0 h1
  go_enter Try.func23, Try.ntmps23
  go_wp2
  go_loopw [0, 5] (fun z i wr => ∃ k : Nat, k ≤ 4 ∧ i = .int .i64 k ∧ z = .int .u64 (seedN n k) ∧ Below w.heap.size w wr ∧ Box5 wr (w.heap.size) (.slice none 0 0) (seedC n k 0) (seedC n k 1) (seedC n k 2) (seedC n k 3)) (fun _ i _ => 4 - (intOf i).toNat)
  case atStart => exact ⟨0, by omega, rfl, rfl, (by (repeat' (first | exact Below.refl _ _ | refine Below.alloc ?_ (by simp <;> omega) _))), (by rw [(seedC_ge (n := n) (k := 0) (i := 0) (by omega)), (seedC_ge (n := n) (k := 0) (i := 1) (by omega)), (seedC_ge (n := n) (k := 0) (i := 2) (by omega)), (seedC_ge (n := n) (k := 0) (i := 3) (by omega))]; constructor <;> go_simp)⟩
  case round =>
    obtain ⟨k, hk, rfl, rfl, hbel, hbx⟩ := hrel
    have HBX := Lib.hid hbx
    obtain ⟨q0, q1, q2, q3, q4, f0, f1, f2, f3, f4⟩ := hbx
    skip
    skip
    have HB := Lib.hid hbel
    clear hbel
    by_cases hlt : k < 4
    · have hb0 := HNB.out k
      have hkI : (k : Int) < 4 := by omega
      obtain ⟨N, hN⟩ : ∃ N, seedN n k = N := ⟨_, rfl⟩
      rw [hN] at hb0
      rw [hN]
      obtain ⟨hN0, hN1⟩ := hb0
      have hZb := wrap_bounds (N + 11400714819323198485)
      obtain ⟨Z, hZ⟩ : ∃ Z, IntKind.u64.wrap (N + 11400714819323198485) = Z := ⟨_, rfl⟩
      have HZN : Hid (seedN n (k + 1) = Z) := Lib.hid (by rw [seedN, hN, hZ])
      rw [hZ] at hZb
      obtain ⟨hZ0, hZ1⟩ := hZb
      have hAb := wrap_bounds (bits .xor .u64 Z (Z / 1073741824) * 13787848793156543929)
      obtain ⟨A, hA⟩ : ∃ A, IntKind.u64.wrap (bits .xor .u64 Z (Z / 1073741824) * 13787848793156543929) = A := ⟨_, rfl⟩
      rw [hA] at hAb
      obtain ⟨hA0, hA1⟩ := hAb
      have hBb := wrap_bounds (bits .xor .u64 A (A / 134217728) * 10723151780598845931)
      obtain ⟨B, hB⟩ : ∃ B, IntKind.u64.wrap (bits .xor .u64 A (A / 134217728) * 10723151780598845931) = B := ⟨_, rfl⟩
      rw [hB] at hBb
      obtain ⟨hB0, hB1⟩ := hBb
      have hV : bits .xor .u64 B (B / 2147483648) = seedV n k := by
        unfold seedV
        rw [HZN.out]
        unfold mixA
        rw [hA]
        unfold mixB
        rw [hB]
      clear hN
      have hk4 : k = 0 ∨ k = 1 ∨ k = 2 ∨ k = 3 := by omega
      rcases hk4 with rfl | rfl | rfl | rfl
      · rw [(seedC_ge (n := n) (k := 0) (i := 0) (by omega))] at q1
        rw [(seedC_ge (n := n) (k := 0) (i := 1) (by omega))] at q2
        rw [(seedC_ge (n := n) (k := 0) (i := 2) (by omega))] at q3
        rw [(seedC_ge (n := n) (k := 0) (i := 3) (by omega))] at q4
        go_wp2
        go_roundw
        case rel => exact ⟨1, by omega, by go_num, congrArg (Value.int .u64) HZN.out.symm, HB.out.setCell (p := ⟨_, _, none⟩) (by simp) _, (by rw [(seedC_lt (n := n) (k := 1) (i := 0) (by omega)), (seedC_ge (n := n) (k := 1) (i := 1) (by omega)), (seedC_ge (n := n) (k := 1) (i := 2) (by omega)), (seedC_ge (n := n) (k := 1) (i := 3) (by omega))]; constructor <;> go_simp)⟩
        case measure => simp [intOf]
      · rw [(seedC_lt (n := n) (k := 1) (i := 0) (by omega))] at q1
        rw [(seedC_ge (n := n) (k := 1) (i := 1) (by omega))] at q2
        rw [(seedC_ge (n := n) (k := 1) (i := 2) (by omega))] at q3
        rw [(seedC_ge (n := n) (k := 1) (i := 3) (by omega))] at q4
        go_wp2
        go_roundw
        case rel => exact ⟨2, by omega, by go_num, congrArg (Value.int .u64) HZN.out.symm, HB.out.setCell (p := ⟨_, _, none⟩) (by simp) _, (by rw [(seedC_lt (n := n) (k := 2) (i := 0) (by omega)), (seedC_lt (n := n) (k := 2) (i := 1) (by omega)), (seedC_ge (n := n) (k := 2) (i := 2) (by omega)), (seedC_ge (n := n) (k := 2) (i := 3) (by omega))]; constructor <;> go_simp)⟩
        case measure => simp [intOf]
      · rw [(seedC_lt (n := n) (k := 2) (i := 0) (by omega))] at q1
        rw [(seedC_lt (n := n) (k := 2) (i := 1) (by omega))] at q2
        rw [(seedC_ge (n := n) (k := 2) (i := 2) (by omega))] at q3
        rw [(seedC_ge (n := n) (k := 2) (i := 3) (by omega))] at q4
        go_wp2
        go_roundw
        case rel => exact ⟨3, by omega, by go_num, congrArg (Value.int .u64) HZN.out.symm, HB.out.setCell (p := ⟨_, _, none⟩) (by simp) _, (by rw [(seedC_lt (n := n) (k := 3) (i := 0) (by omega)), (seedC_lt (n := n) (k := 3) (i := 1) (by omega)), (seedC_lt (n := n) (k := 3) (i := 2) (by omega)), (seedC_ge (n := n) (k := 3) (i := 3) (by omega))]; constructor <;> go_simp)⟩
        case measure => simp [intOf]
      · rw [(seedC_lt (n := n) (k := 3) (i := 0) (by omega))] at q1
        rw [(seedC_lt (n := n) (k := 3) (i := 1) (by omega))] at q2
        rw [(seedC_lt (n := n) (k := 3) (i := 2) (by omega))] at q3
        rw [(seedC_ge (n := n) (k := 3) (i := 3) (by omega))] at q4
        go_wp2
        go_roundw
        case rel => exact ⟨4, by omega, by go_num, congrArg (Value.int .u64) HZN.out.symm, HB.out.setCell (p := ⟨_, _, none⟩) (by simp) _, (by rw [(seedC_lt (n := n) (k := 4) (i := 0) (by omega)), (seedC_lt (n := n) (k := 4) (i := 1) (by omega)), (seedC_lt (n := n) (k := 4) (i := 2) (by omega)), (seedC_lt (n := n) (k := 4) (i := 3) (by omega))]; constructor <;> go_simp)⟩
        case measure => simp [intOf]
    · obtain rfl : k = 4 := by omega
      obtain ⟨eC0, eC1, eC2, eC3⟩ := seedC_all n
      obtain ⟨S, hS⟩ : ∃ S, seedS n = S := ⟨_, rfl⟩
      rw [hS] at eC0 eC1 eC2 eC3
      rw [eC0] at q1
      rw [eC1] at q2
      rw [eC2] at q3
      rw [eC3] at q4
      clear eC0 eC1 eC2 eC3
      go_wp2
      (try simp only [Exit.inBlock, Exit.then])
      refine bodyPost_ret (v := .agg #[.slice none 0 0, .int .u64 (S.a : Nat), .int .u64 (S.b : Nat), .int .u64 (S.c : Nat), .int .u64 (S.d : Nat)]) (by rw [results_c rfl]; go_simp) rfl ⟨by rw [hS], ?_⟩
      iterate 5 refine Below.setCell ?_ (by simp <;> omega) _
      exact HB.out

set_option maxRecDepth 100000 in
set_option maxHeartbeats 1000000 in
theorem seed24_any (n : Int) (w : World) (h0 : 0 ≤ n) (h1 : n ≤ 18446744073709551615) :
    Calls Try.prog 24 #[.int .u64 n] w fun e w' => e = .returned (.agg #[.slice none 0 0, .int .u64 ((seedS n).a : Nat), .int .u64 ((seedS n).b : Nat), .int .u64 ((seedS n).c : Nat), .int .u64 ((seedS n).d : Nat)]) ∧ Below w.heap.size w w' := by
  have HNB := Lib.hid (seedN_bounds h0 h1)
  clear h0 h1
  go_enter Try.func24, Try.ntmps24
  go_wp2
  go_loopw [0, 4] (fun z i wr => ∃ k : Nat, k ≤ 4 ∧ i = .int .i64 k ∧ z = .int .u64 (seedN n k) ∧ Below w.heap.size w wr ∧ Box5 wr (w.heap.size + 1) (.slice none 0 0) (seedC n k 0) (seedC n k 1) (seedC n k 2) (seedC n k 3) ∧ Box5 wr w.heap.size (.slice none 0 0) (.int .u64 0) (.int .u64 0) (.int .u64 0) (.int .u64 0)) (fun _ i _ => 4 - (intOf i).toNat)
  case atStart => exact ⟨0, by omega, rfl, rfl, (by (repeat' (first | exact Below.refl _ _ | refine Below.alloc ?_ (by simp <;> omega) _))), (by rw [(seedC_ge (n := n) (k := 0) (i := 0) (by omega)), (seedC_ge (n := n) (k := 0) (i := 1) (by omega)), (seedC_ge (n := n) (k := 0) (i := 2) (by omega)), (seedC_ge (n := n) (k := 0) (i := 3) (by omega))]; constructor <;> go_simp), (by constructor <;> go_simp)⟩
  case round =>
    obtain ⟨k, hk, rfl, rfl, hbel, hbx, hby⟩ := hrel
    have HBX := Lib.hid hbx
    obtain ⟨q0, q1, q2, q3, q4, f0, f1, f2, f3, f4⟩ := hbx
    have HBY := Lib.hid hby
    obtain ⟨_, _, _, _, _, _, _, _, _, _⟩ := hby
    have HB := Lib.hid hbel
    clear hbel
    by_cases hlt : k < 4
    · have hb0 := HNB.out k
      have hkI : (k : Int) < 4 := by omega
      obtain ⟨N, hN⟩ : ∃ N, seedN n k = N := ⟨_, rfl⟩
      rw [hN] at hb0
      rw [hN]
      obtain ⟨hN0, hN1⟩ := hb0
      have hZb := wrap_bounds (N + 11400714819323198485)
      obtain ⟨Z, hZ⟩ : ∃ Z, IntKind.u64.wrap (N + 11400714819323198485) = Z := ⟨_, rfl⟩
      have HZN : Hid (seedN n (k + 1) = Z) := Lib.hid (by rw [seedN, hN, hZ])
      rw [hZ] at hZb
      obtain ⟨hZ0, hZ1⟩ := hZb
      have hAb := wrap_bounds (bits .xor .u64 Z (Z / 1073741824) * 13787848793156543929)
      obtain ⟨A, hA⟩ : ∃ A, IntKind.u64.wrap (bits .xor .u64 Z (Z / 1073741824) * 13787848793156543929) = A := ⟨_, rfl⟩
      rw [hA] at hAb
      obtain ⟨hA0, hA1⟩ := hAb
      have hBb := wrap_bounds (bits .xor .u64 A (A / 134217728) * 10723151780598845931)
      obtain ⟨B, hB⟩ : ∃ B, IntKind.u64.wrap (bits .xor .u64 A (A / 134217728) * 10723151780598845931) = B := ⟨_, rfl⟩
      rw [hB] at hBb
      obtain ⟨hB0, hB1⟩ := hBb
      have hV : bits .xor .u64 B (B / 2147483648) = seedV n k := by
        unfold seedV
        rw [HZN.out]
        unfold mixA
        rw [hA]
        unfold mixB
        rw [hB]
      clear hN
      have hk4 : k = 0 ∨ k = 1 ∨ k = 2 ∨ k = 3 := by omega
      rcases hk4 with rfl | rfl | rfl | rfl
      · rw [(seedC_ge (n := n) (k := 0) (i := 0) (by omega))] at q1
        rw [(seedC_ge (n := n) (k := 0) (i := 1) (by omega))] at q2
        rw [(seedC_ge (n := n) (k := 0) (i := 2) (by omega))] at q3
        rw [(seedC_ge (n := n) (k := 0) (i := 3) (by omega))] at q4
        go_wp2
        go_roundw
        case rel => exact ⟨1, by omega, by go_num, congrArg (Value.int .u64) HZN.out.symm, HB.out.setCell (p := ⟨_, _, none⟩) (by simp) _, (by rw [(seedC_lt (n := n) (k := 1) (i := 0) (by omega)), (seedC_ge (n := n) (k := 1) (i := 1) (by omega)), (seedC_ge (n := n) (k := 1) (i := 2) (by omega)), (seedC_ge (n := n) (k := 1) (i := 3) (by omega))]; constructor <;> go_simp), (by constructor <;> go_simp)⟩
        case measure => simp [intOf]
      · rw [(seedC_lt (n := n) (k := 1) (i := 0) (by omega))] at q1
        rw [(seedC_ge (n := n) (k := 1) (i := 1) (by omega))] at q2
        rw [(seedC_ge (n := n) (k := 1) (i := 2) (by omega))] at q3
        rw [(seedC_ge (n := n) (k := 1) (i := 3) (by omega))] at q4
        go_wp2
        go_roundw
        case rel => exact ⟨2, by omega, by go_num, congrArg (Value.int .u64) HZN.out.symm, HB.out.setCell (p := ⟨_, _, none⟩) (by simp) _, (by rw [(seedC_lt (n := n) (k := 2) (i := 0) (by omega)), (seedC_lt (n := n) (k := 2) (i := 1) (by omega)), (seedC_ge (n := n) (k := 2) (i := 2) (by omega)), (seedC_ge (n := n) (k := 2) (i := 3) (by omega))]; constructor <;> go_simp), (by constructor <;> go_simp)⟩
        case measure => simp [intOf]
      · rw [(seedC_lt (n := n) (k := 2) (i := 0) (by omega))] at q1
        rw [(seedC_lt (n := n) (k := 2) (i := 1) (by omega))] at q2
        rw [(seedC_ge (n := n) (k := 2) (i := 2) (by omega))] at q3
        rw [(seedC_ge (n := n) (k := 2) (i := 3) (by omega))] at q4
        go_wp2
        go_roundw
        case rel => exact ⟨3, by omega, by go_num, congrArg (Value.int .u64) HZN.out.symm, HB.out.setCell (p := ⟨_, _, none⟩) (by simp) _, (by rw [(seedC_lt (n := n) (k := 3) (i := 0) (by omega)), (seedC_lt (n := n) (k := 3) (i := 1) (by omega)), (seedC_lt (n := n) (k := 3) (i := 2) (by omega)), (seedC_ge (n := n) (k := 3) (i := 3) (by omega))]; constructor <;> go_simp), (by constructor <;> go_simp)⟩
        case measure => simp [intOf]
      · rw [(seedC_lt (n := n) (k := 3) (i := 0) (by omega))] at q1
        rw [(seedC_lt (n := n) (k := 3) (i := 1) (by omega))] at q2
        rw [(seedC_lt (n := n) (k := 3) (i := 2) (by omega))] at q3
        rw [(seedC_ge (n := n) (k := 3) (i := 3) (by omega))] at q4
        go_wp2
        go_roundw
        case rel => exact ⟨4, by omega, by go_num, congrArg (Value.int .u64) HZN.out.symm, HB.out.setCell (p := ⟨_, _, none⟩) (by simp) _, (by rw [(seedC_lt (n := n) (k := 4) (i := 0) (by omega)), (seedC_lt (n := n) (k := 4) (i := 1) (by omega)), (seedC_lt (n := n) (k := 4) (i := 2) (by omega)), (seedC_lt (n := n) (k := 4) (i := 3) (by omega))]; constructor <;> go_simp), (by constructor <;> go_simp)⟩
        case measure => simp [intOf]
    · obtain rfl : k = 4 := by omega
      obtain ⟨eC0, eC1, eC2, eC3⟩ := seedC_all n
      obtain ⟨S, hS⟩ : ∃ S, seedS n = S := ⟨_, rfl⟩
      rw [hS] at eC0 eC1 eC2 eC3
      rw [eC0] at q1
      rw [eC1] at q2
      rw [eC2] at q3
      rw [eC3] at q4
      clear eC0 eC1 eC2 eC3
      go_wp2
      (try simp only [Exit.inBlock, Exit.then])
      refine bodyPost_ret (v := .agg #[.slice none 0 0, .int .u64 (S.a : Nat), .int .u64 (S.b : Nat), .int .u64 (S.c : Nat), .int .u64 (S.d : Nat)]) (by rw [results_c rfl]; go_simp) rfl ⟨by rw [hS], ?_⟩
      iterate 5 refine Below.setCell ?_ (by simp <;> omega) _
      exact HB.out
end Go.Proofs.Ytiejkdnkdmanmaa
