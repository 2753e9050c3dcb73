import Derived.Test.YtadlnmckcnfacaaGreatVRxN
import Derived.Test.YtadlnmckcnfacaaGreatVCxL
set_option linter.unusedVariables false
set_option linter.unusedSimpArgs false
namespace Go.Rt
theorem wpl_makeD {P : Program} {w : World} {ops : Array Oper} {rest : List Oper} {o : Oper} {a : Act} {Q : Exit → Act → World → Prop} (T E : TypeId) (v0 : Value) (sz by0 : Nat) (hby : by0 ≤ 64)
  (hinf : (P.info? E).map (fun i => (i.zero, i.size, i.bytes)) = some (some v0, sz, by0)) (hu : P.underlying T = some (.slice E))
  (n : Nat) (L C : Int) (l c : Operand) (hg : o.guard = none) (hop : o.op = Op.makeSlice T l c) (hl : a.eval l = .int .i64 L) (hc : a.eval c = .int .i64 C) (hL : L = (n : Int)) (hC : C = (n : Int))
  (hn : n ≤ 4398046511104)
  (hK : wpList P ops Q rest (a.put o.dst (.slice (some ⟨w.heap.size, 0, none⟩) n n)) (w.alloc (.cells (madeCells v0.cells (n * sz)) E))) : wpList P ops Q (o :: rest) a w := by
 obtain ⟨i, hi, hz0, hz1, hz2⟩ := info_parts hinf
 refine wpList_plain hg fun K hK' => ?_
 subst hL; subst hC
 have hmul : by0 * n ≤ 64 * n := Nat.mul_le_mul_right n hby
 have hmul2 : (by0 : Int) * (n : Int) ≤ 281474976710656 := by
  have : ((by0 * n : Nat) : Int) ≤ 281474976710656 := by omega
  rwa [Int.natCast_mul] at this
 have hr := run_make (P := P) w T E i v0 hu hi hz0 .i64 .i64 n n (by omega) (Int.le_refl _) (by rw [hz2]; exact hmul2) (by omega)
 simp only [Int.toNat_natCast, hz1] at hr
 unfold Oper.wp
 simp [execOp, hop, hl, hc, hr, Result.andThen]
 exact hK' _ _ hK
end Go.Rt
namespace Go.Proofs.YtadlnmckcnfacaaGreat
open Go.RowKit Go.Rt
theorem infoZ : (Tryz.prog.info? 60).map (fun i => (i.zero, i.size, i.bytes)) = some (some (.agg #[.bool false, .slice none 0 0]), 2, 32) := by kernel_rfl
def ncells (A : Nat → Option Addr) (C : Nat → Nat) (S : Nat → Int) : Nat → List Value
 | 0 => []
 | n + 1 => ncells A C S n ++ [.bool (decide (S n < 0)), .slice (A n) (dig 18446744073709551616 (S n).natAbs).length (C n)]
theorem ncells_len (A : Nat → Option Addr) (C : Nat → Nat) (S : Nat → Int) : ∀ n, (ncells A C S n).length = n * 2
 | 0 => rfl
 | n + 1 => by rw [ncells, List.length_append, ncells_len A C S n]; simp; omega
theorem ncells_neg (A : Nat → Option Addr) (C : Nat → Nat) (S : Nat → Int) : ∀ (n k : Nat), k < n → (ncells A C S n)[k * 2]? = some (.bool (decide (S k < 0)))
 | n + 1, k, h => by
  rw [ncells]
  by_cases hk : k < n
  ·rw [List.getElem?_append_left (by rw [ncells_len]; omega)]
   exact ncells_neg A C S n k hk
  ·obtain rfl : k = n := by omega
   rw [List.getElem?_append_right (by rw [ncells_len]; omega), ncells_len]
   simp
theorem ncells_mag (A : Nat → Option Addr) (C : Nat → Nat) (S : Nat → Int) : ∀ (n k : Nat), k < n → (ncells A C S n)[k * 2 + 1]? = some (.slice (A k) (dig 18446744073709551616 (S k).natAbs).length (C k))
 | n + 1, k, h => by
  rw [ncells]
  by_cases hk : k < n
  ·rw [List.getElem?_append_left (by rw [ncells_len]; omega)]
   exact ncells_mag A C S n k hk
  ·obtain rfl : k = n := by omega
   rw [List.getElem?_append_right (by rw [ncells_len]; omega), ncells_len]
   simp [show k * 2 + 1 - k * 2 = 1 by omega]
theorem ncells_congr {A B : Nat → Option Addr} {C D : Nat → Nat} {S T : Nat → Int} : ∀ (n : Nat), (∀ k, k < n → A k = B k ∧ C k = D k ∧ S k = T k) → ncells A C S n = ncells B D T n
 | 0, _ => rfl
 | n + 1, h => by
  obtain ⟨h1, h2, h3⟩ := h n (by omega)
  rw [ncells, ncells, ncells_congr n fun k hk => h k (by omega), h1, h2, h3]
theorem ncells_set {A B : Nat → Option Addr} {C D : Nat → Nat} {S T : Nat → Int} (k : Nat) : ∀ (n : Nat), k < n → (∀ j, j < n → j ≠ k → A j = B j ∧ C j = D j ∧ S j = T j) → ((ncells A C S n).set (k * 2) (.bool (decide (T k < 0)))).set (k * 2 + 1) (.slice (B k) (dig 18446744073709551616 (T k).natAbs).length (D k)) = ncells B D T n
 | n + 1, h, hT => by
  rw [ncells, ncells]
  by_cases hk : k < n
  ·obtain ⟨h1, h2, h3⟩ := hT n (by omega) (by omega)
   rw [List.set_append_left _ _ (by rw [ncells_len]; omega), List.set_append_left _ _ (by rw [List.length_set, ncells_len]; omega), ncells_set k n hk fun j hj => hT j (by omega), h1, h2, h3]
  ·obtain rfl : k = n := by omega
   rw [List.set_append_right _ _ (by rw [ncells_len]; omega), List.set_append_right _ _ (by rw [ncells_len]; omega), ncells_len, ncells_congr (A := A) (B := B) (C := C) (D := D) (S := S) (T := T) k fun j hj => hT j (by omega) (by omega)]
   simp [show k * 2 + 1 - k * 2 = 1 by omega]
theorem ncells_get {A : Nat → Option Addr} {C : Nat → Nat} {S : Nat → Int} {n i : Nat} (h : i < n * 2) : (ncells A C S n)[i]? = some (if i % 2 = 0 then .bool (decide (S (i / 2) < 0)) else .slice (A (i / 2)) (dig 18446744073709551616 (S (i / 2)).natAbs).length (C (i / 2))) := by
 split
 ·next he =>
  have := ncells_neg A C S n (i / 2) (by omega)
  rwa [show i / 2 * 2 = i by omega] at this
 ·next he =>
  have := ncells_mag A C S n (i / 2) (by omega)
  rwa [show i / 2 * 2 + 1 = i by omega] at this
theorem made_ints (n : Nat) : (madeCells (Value.agg #[.bool false, .slice none 0 0]).cells (n * 2)).toList = ncells (fun _ => none) (fun _ => 0) (fun _ => 0) n := by
 refine List.ext_getElem? fun i => ?_
 by_cases hi : i < n * 2
 ·rw [ncells_get hi]
  have hc : (Value.agg #[.bool false, .slice none 0 0]).cells = #[.bool false, .slice none 0 0] := by simp [Value.cells]
  rw [hc]
  simp only [madeCells, Array.toList_map, Array.toList_range, List.getElem?_map, List.getElem?_range hi, Option.map_some]
  have h2 : i % 2 = 0 ∨ i % 2 = 1 := by omega
  rcases h2 with h2 | h2 <;> simp [h2, dig_zero]
 ·rw [List.getElem?_eq_none (by simp [madeCells]; omega), List.getElem?_eq_none (by rw [ncells_len]; omega)]
theorem nat_none (W : World) : NAt W W.heap.size none 0 0 := nat_zero W W.heap.size
def updA (A : Nat → Option Addr) (k : Nat) (a : Option Addr) : Nat → Option Addr := fun j => if j = k then a else A j
def updC (C : Nat → Nat) (k c : Nat) : Nat → Nat := fun j => if j = k then c else C j
theorem updA_at (A : Nat → Option Addr) (k : Nat) (a : Option Addr) : updA A k a k = a := if_pos rfl
theorem updC_at (C : Nat → Nat) (k c : Nat) : updC C k c k = c := if_pos rfl
theorem updA_ne (A : Nat → Option Addr) {k j : Nat} (a : Option Addr) (h : j ≠ k) : updA A k a j = A j := if_neg h
theorem updC_ne (C : Nat → Nat) {k j : Nat} (c : Nat) (h : j ≠ k) : updC C k c j = C j := if_neg h
def IsNat (m : Nat) (u : Value) (W : World) : Prop := ∃ a c, u = .slice a (dig 18446744073709551616 m).length c ∧ NAt W W.heap.size a c m
theorem isNat_carries (m : Nat) : Carries (IsNat m) := fun _ _ _ ⟨a, c, h, hN⟩ hb => ⟨a, c, h, hN.next hb⟩
def IsRat (x : Int) (m : Nat) (u : Value) (W : World) : Prop := ∃ a c b d, u = .agg #[.bool (decide (x < 0)), .slice a (dig 18446744073709551616 x.natAbs).length c, .slice b (dig 18446744073709551616 m).length d] ∧ NAt W W.heap.size a c x.natAbs ∧ NAt W W.heap.size b d m
theorem isRat_carries (x : Int) (m : Nat) : Carries (IsRat x m) := fun _ _ _ ⟨a, c, b, d, h, hN, hM⟩ hb => ⟨a, c, b, d, h, hN.next hb, hM.next hb⟩
theorem rat_pow (x : Int) (f : Nat) : sgnZ (decide (x < 0)) (x.natAbs / Nat.gcd x.natAbs (2 ^ f)) = ratQ x (2 ^ f) ∧ 2 ^ f / Nat.gcd x.natAbs (2 ^ f) = ratK x (2 ^ f) := by
 have hp : (0 : Int) < 2 ^ f := Int.pow_pos (by decide)
 have e1 : ratX x (2 ^ f) = x := by unfold ratX; rw [if_neg (by omega)]
 have e2 : ((2 : Int) ^ f).natAbs = 2 ^ f := by rw [Int.natAbs_pow]; rfl
 unfold ratQ ratK
 rw [e1, e2]
 exact ⟨rfl, rfl⟩
theorem near_shI (x : Int) (f : Nat) : nearZ (ratQ x (2 ^ f)) (ratK x (2 ^ f)) = shI x f := near_round x (2 ^ f) (by have : (0 : Int) < 2 ^ f := Int.pow_pos (by decide); omega)
theorem sum_nearF {x : Int} {f : Nat} (hf : f ≤ 62) (hx : x.natAbs ≤ 65536 * (140737488355328 * 140737488355328)) (w : World) :
  (∀ p q c d W, NAt W W.heap.size p c x.natAbs → NAt W W.heap.size q d (2 ^ f) → Calls Tryz.prog 28 #[.agg #[.bool (decide (x < 0)), .slice p (dig 18446744073709551616 x.natAbs).length c], .slice q (dig 18446744073709551616 (2 ^ f)).length d] W (RetR W (ratQ x (2 ^ f)) (ratK x (2 ^ f)))) ∧
  (∀ p q c d W, NAt W W.heap.size p c (ratQ x (2 ^ f)).natAbs → NAt W W.heap.size q d (ratK x (2 ^ f)) → Calls Tryz.prog 27 #[.agg #[.bool (decide (ratQ x (2 ^ f) < 0)), .slice p (dig 18446744073709551616 (ratQ x (2 ^ f)).natAbs).length c, .slice q (dig 18446744073709551616 (ratK x (2 ^ f))).length d]] W fun e w' => RetV (wordV (shI x f)) (wordE (shI x f)) e ∧ Below W.heap.size W w') := by
 have hpf : (2 : Nat) ^ f ≤ 2 ^ 62 := Nat.pow_le_pow_right (by decide) hf
 have h62 : (2 : Nat) ^ 62 = 4611686018427387904 := by decide
 have h130 : (2 : Nat) ^ 130 = 1361129467683753853853498429727072845824 := by decide
 have hp0 : 0 < (2 : Nat) ^ f := Nat.pow_pos (by decide)
 obtain ⟨e1, e2⟩ := rat_pow x f
 have hg : 0 < Nat.gcd x.natAbs (2 ^ f) := Nat.gcd_pos_of_pos_right _ hp0
 have hq0 : (ratQ x (2 ^ f)).natAbs ≤ x.natAbs := by rw [← e1, sgnZ_abs]; exact Nat.div_le_self _ _
 have hk0 : ratK x (2 ^ f) ≤ 2 ^ f := by rw [← e2]; exact Nat.div_le_self _ _
 have hk1 : 0 < ratK x (2 ^ f) := by rw [← e2]; exact Nat.div_pos (Nat.le_of_dvd hp0 (Nat.gcd_dvd_right _ _)) hg
 exact ⟨fun p q c d W h h' => rmake_any p q c d (2 ^ f) 130 x (ratQ x (2 ^ f)) (ratK x (2 ^ f)) W h h' (by decide) (by rw [h130]; omega) (by rw [h130]; omega) hp0 e1 e2,
  fun p q c d W h h' => ref2Near_any p q c d (ratK x (2 ^ f)) 130 (ratQ x (2 ^ f)) (shI x f) W h h' (by decide) (by rw [h130]; omega) (by rw [h130]; omega) hk1 (near_shI x f)⟩
end Go.Proofs.YtadlnmckcnfacaaGreat
