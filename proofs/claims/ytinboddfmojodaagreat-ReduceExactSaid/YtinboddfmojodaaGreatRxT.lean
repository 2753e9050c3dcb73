/- Walks: the reference's Reduce. -/
import Derived.Test.YtinboddfmojodaaGreatRdR
import Derived.Test.YtinboddfmojodaaGreatRxN
set_option linter.unusedVariables false
set_option linter.unusedSimpArgs false
namespace Go.Rt
/-- make of cells (of at most 64 octets each), as a new block. -/
theorem wpl_makeD {P : Program} {w : World} {ops : Array Oper} {rest : List Oper} {o : Oper} {a : Act} {Q : Exit → Act → World → Prop} (T E : TypeId) (v0 : Value) (sz by0 : Nat) (hby : by0 ≤ 64)
    (hinf : (P.info? E).map (fun i => (i.zero, i.size, i.bytes)) = some (some v0, sz, by0)) (hu : P.underlying T = some (.slice E))
    (n : Nat) (L C : Int) (l c : Operand) (hg : o.guard = none) (hop : o.op = Op.makeSlice T l c) (hl : a.eval l = .int .i64 L) (hc : a.eval c = .int .i64 C) (hL : L = (n : Int)) (hC : C = (n : Int))
    (hn : n ≤ 4398046511104)
    (hK : wpList P ops Q rest (a.put o.dst (.slice (some ⟨w.heap.size, 0, none⟩) n n)) (w.alloc (.cells (madeCells v0.cells (n * sz)) E))) : wpList P ops Q (o :: rest) a w := by
  obtain ⟨i, hi, hz0, hz1, hz2⟩ := info_parts hinf
  refine wpList_plain hg fun K hK' => ?_
  subst hL; subst hC
  have hmul : by0 * n ≤ 64 * n := Nat.mul_le_mul_right n hby
  have hmul2 : (by0 : Int) * (n : Int) ≤ 281474976710656 := by
    have : ((by0 * n : Nat) : Int) ≤ 281474976710656 := by omega
    rwa [Int.natCast_mul] at this
  have hr := run_make (P := P) w T E i v0 hu hi hz0 .i64 .i64 n n (by omega) (Int.le_refl _) (by rw [hz2]; exact hmul2) (by omega)
  simp only [Int.toNat_natCast, hz1] at hr
  unfold Oper.wp
  simp [execOp, hop, hl, hc, hr, Result.andThen]
  exact hK' _ _ hK
end Go.Rt
namespace Go.Proofs.YtinboddfmojodaaGreat
open Go.RowKit Go.Rt
theorem infoZ : (Tryz.prog.info? 56).map (fun i => (i.zero, i.size, i.bytes)) = some (some (.agg #[.bool false, .slice none 0 0]), 2, 32) := by kernel_rfl
/-- Cells of the reference's whole numbers, one after the other. -/
def ncells (A : Nat → Option Addr) (C : Nat → Nat) (S : Nat → Int) : Nat → List Value
  | 0 => []
  | n + 1 => ncells A C S n ++ [.bool (decide (S n < 0)), .slice (A n) (dig 18446744073709551616 (S n).natAbs).length (C n)]
theorem ncells_len (A : Nat → Option Addr) (C : Nat → Nat) (S : Nat → Int) : ∀ n, (ncells A C S n).length = n * 2
  | 0 => rfl
  | n + 1 => by rw [ncells, List.length_append, ncells_len A C S n]; simp; omega
theorem ncells_neg (A : Nat → Option Addr) (C : Nat → Nat) (S : Nat → Int) : ∀ (n k : Nat), k < n → (ncells A C S n)[k * 2]? = some (.bool (decide (S k < 0)))
  | n + 1, k, h => by
    rw [ncells]
    by_cases hk : k < n
    · rw [List.getElem?_append_left (by rw [ncells_len]; omega)]
      exact ncells_neg A C S n k hk
    · obtain rfl : k = n := by omega
      rw [List.getElem?_append_right (by rw [ncells_len]; omega), ncells_len]
      simp
theorem ncells_mag (A : Nat → Option Addr) (C : Nat → Nat) (S : Nat → Int) : ∀ (n k : Nat), k < n → (ncells A C S n)[k * 2 + 1]? = some (.slice (A k) (dig 18446744073709551616 (S k).natAbs).length (C k))
  | n + 1, k, h => by
    rw [ncells]
    by_cases hk : k < n
    · rw [List.getElem?_append_left (by rw [ncells_len]; omega)]
      exact ncells_mag A C S n k hk
    · obtain rfl : k = n := by omega
      rw [List.getElem?_append_right (by rw [ncells_len]; omega), ncells_len]
      simp [show k * 2 + 1 - k * 2 = 1 by omega]
theorem ncells_congr {A B : Nat → Option Addr} {C D : Nat → Nat} {S T : Nat → Int} : ∀ (n : Nat), (∀ k, k < n → A k = B k ∧ C k = D k ∧ S k = T k) → ncells A C S n = ncells B D T n
  | 0, _ => rfl
  | n + 1, h => by
    obtain ⟨h1, h2, h3⟩ := h n (by omega)
    rw [ncells, ncells, ncells_congr n fun k hk => h k (by omega), h1, h2, h3]
theorem ncells_set {A B : Nat → Option Addr} {C D : Nat → Nat} {S T : Nat → Int} (k : Nat) : ∀ (n : Nat), k < n → (∀ j, j < n → j ≠ k → A j = B j ∧ C j = D j ∧ S j = T j) → ((ncells A C S n).set (k * 2) (.bool (decide (T k < 0)))).set (k * 2 + 1) (.slice (B k) (dig 18446744073709551616 (T k).natAbs).length (D k)) = ncells B D T n
  | n + 1, h, hT => by
    rw [ncells, ncells]
    by_cases hk : k < n
    · obtain ⟨h1, h2, h3⟩ := hT n (by omega) (by omega)
      rw [List.set_append_left _ _ (by rw [ncells_len]; omega), List.set_append_left _ _ (by rw [List.length_set, ncells_len]; omega), ncells_set k n hk fun j hj => hT j (by omega), h1, h2, h3]
    · obtain rfl : k = n := by omega
      rw [List.set_append_right _ _ (by rw [ncells_len]; omega), List.set_append_right _ _ (by rw [ncells_len]; omega), ncells_len, ncells_congr (A := A) (B := B) (C := C) (D := D) (S := S) (T := T) k fun j hj => hT j (by omega) (by omega)]
      simp [show k * 2 + 1 - k * 2 = 1 by omega]
theorem ncells_get {A : Nat → Option Addr} {C : Nat → Nat} {S : Nat → Int} {n i : Nat} (h : i < n * 2) : (ncells A C S n)[i]? = some (if i % 2 = 0 then .bool (decide (S (i / 2) < 0)) else .slice (A (i / 2)) (dig 18446744073709551616 (S (i / 2)).natAbs).length (C (i / 2))) := by
  split
  · next he =>
    have := ncells_neg A C S n (i / 2) (by omega)
    rwa [show i / 2 * 2 = i by omega] at this
  · next he =>
    have := ncells_mag A C S n (i / 2) (by omega)
    rwa [show i / 2 * 2 + 1 = i by omega] at this
theorem made_ints (n : Nat) : (madeCells (Value.agg #[.bool false, .slice none 0 0]).cells (n * 2)).toList = ncells (fun _ => none) (fun _ => 0) (fun _ => 0) n := by
  refine List.ext_getElem? fun i => ?_
  by_cases hi : i < n * 2
  · rw [ncells_get hi]
    have hc : (Value.agg #[.bool false, .slice none 0 0]).cells = #[.bool false, .slice none 0 0] := by simp [Value.cells]
    rw [hc]
    simp only [madeCells, Array.toList_map, Array.toList_range, List.getElem?_map, List.getElem?_range hi, Option.map_some]
    have h2 : i % 2 = 0 ∨ i % 2 = 1 := by omega
    rcases h2 with h2 | h2 <;> simp [h2, dig_zero]
  · rw [List.getElem?_eq_none (by simp [madeCells]; omega), List.getElem?_eq_none (by rw [ncells_len]; omega)]
theorem nat_none (W : World) : NAt W W.heap.size none 0 0 := nat_zero W W.heap.size
/-- Which whole number stands where, behind a store. -/
def updA (A : Nat → Option Addr) (k : Nat) (a : Option Addr) : Nat → Option Addr := fun j => if j = k then a else A j
def updC (C : Nat → Nat) (k c : Nat) : Nat → Nat := fun j => if j = k then c else C j
theorem updA_at (A : Nat → Option Addr) (k : Nat) (a : Option Addr) : updA A k a k = a := if_pos rfl
theorem updC_at (C : Nat → Nat) (k c : Nat) : updC C k c k = c := if_pos rfl
theorem updA_ne (A : Nat → Option Addr) {k j : Nat} (a : Option Addr) (h : j ≠ k) : updA A k a j = A j := if_neg h
theorem updC_ne (C : Nat → Nat) {k j : Nat} (c : Nat) (h : j ≠ k) : updC C k c j = C j := if_neg h
def IsNat (m : Nat) (u : Value) (W : World) : Prop := ∃ a c, u = .slice a (dig 18446744073709551616 m).length c ∧ NAt W W.heap.size a c m
theorem isNat_carries (m : Nat) : Carries (IsNat m) := fun _ _ _ ⟨a, c, h, hN⟩ hb => ⟨a, c, h, hN.next hb⟩
def IsRat (x : Int) (m : Nat) (u : Value) (W : World) : Prop := ∃ a c b d, u = .agg #[.bool (decide (x < 0)), .slice a (dig 18446744073709551616 x.natAbs).length c, .slice b (dig 18446744073709551616 m).length d] ∧ NAt W W.heap.size a c x.natAbs ∧ NAt W W.heap.size b d m
theorem isRat_carries (x : Int) (m : Nat) : Carries (IsRat x m) := fun _ _ _ ⟨a, c, b, d, h, hN, hM⟩ hb => ⟨a, c, b, d, h, hN.next hb, hM.next hb⟩
/-- A sum over a count: what Make answers, and what Near makes of it. -/
theorem sum_near {x : Int} {m : Nat} (h0 : 0 < m) (hm : m ≤ 65536) (hx : x.natAbs ≤ 65536 * 140737488355328) :
    (∀ p q c d W, NAt W W.heap.size p c x.natAbs → NAt W W.heap.size q d m → Calls Tryz.prog 51 #[.agg #[.bool (decide (x < 0)), .slice p (dig 18446744073709551616 x.natAbs).length c], .slice q (dig 18446744073709551616 m).length d] W (RetR W (ratQ x m) (ratK x m))) ∧
    (∀ p q c d W, NAt W W.heap.size p c (ratQ x m).natAbs → NAt W W.heap.size q d (ratK x m) → Calls Tryz.prog 24 #[.agg #[.bool (decide (ratQ x m < 0)), .slice p (dig 18446744073709551616 (ratQ x m).natAbs).length c, .slice q (dig 18446744073709551616 (ratK x m)).length d]] W fun e w' => RetV (wordV (roundI x m)) (wordE (roundI x m)) e ∧ Below W.heap.size W w') := by
  have h130 : (2 : Nat) ^ 130 = 1361129467683753853853498429727072845824 := by decide
  have hX : ratX x (m : Int) = x := by unfold ratX; rw [if_neg (by omega)]
  have e1 : sgnZ (decide (x < 0)) (x.natAbs / Nat.gcd x.natAbs m) = ratQ x m := by unfold ratQ; rw [hX, Int.natAbs_natCast]
  have e2 : m / Nat.gcd x.natAbs m = ratK x m := by unfold ratK; rw [hX, Int.natAbs_natCast]
  have hg : 0 < Nat.gcd x.natAbs m := Nat.gcd_pos_of_pos_right _ h0
  have hq0 : (ratQ x m).natAbs ≤ x.natAbs := by rw [← e1, sgnZ_abs]; exact Nat.div_le_self _ _
  have hk0 : ratK x m ≤ m := by rw [← e2]; exact Nat.div_le_self _ _
  have hk1 : 0 < ratK x m := by rw [← e2]; exact Nat.div_pos (Nat.le_of_dvd h0 (Nat.gcd_dvd_right _ _)) hg
  exact ⟨fun p q c d W h h' => rmake_any p q c d m 130 x (ratQ x m) (ratK x m) W h h' (by decide) (by rw [h130]; omega) (by rw [h130]; omega) h0 e1 e2,
    fun p q c d W h h' => ref2Near_any p q c d (ratK x m) 130 (ratQ x m) (roundI x m) W h h' (by decide) (by rw [h130]; omega) (by rw [h130]; omega) hk1 (near_round x m (by omega))⟩

attribute [local go_sem] Oper.semAt_some
set_option maxRecDepth 100000 in
set_option maxHeartbeats 2000000 in
theorem over8_any (a : Option Addr) (c m : Nat) (x : Int) (w : World) (h : NAt w w.heap.size a c x.natAbs) (h0 : 0 < m) (hm : m ≤ 65536) (hx : x.natAbs ≤ 65536 * 140737488355328) :
    Calls Tryz.prog 25 #[.agg #[.bool (decide (x < 0)), .slice a (dig 18446744073709551616 x.natAbs).length c], .int .i64 (m : Int)] w (RetR w (ratQ x m) (ratK x m)) := by
  have HMK := Lib.hid (sum_near h0 hm hx).1
  have hno := fun W => nof_any (m : Int) (by omega) W
  rw [Int.toNat_natCast] at hno
  have HNO := Lib.hid hno
  have HN := Lib.hid h
  have F1 := Lib.hid ((Fr.start (w := w) (I := []) (by simp)).box1 (b := w.heap.size) rfl [.bool (decide (x < 0)), .slice a (dig 18446744073709551616 x.natAbs).length c] 56 |>.box1 (b := w.heap.size + 1) (by simp) [.bool false, .slice none 0 0, .slice none 0 0] 62)
  simp only [List.nil_append, List.cons_append] at F1
  obtain ⟨RQ, hRQ⟩ : ∃ y, ratQ x m = y := ⟨_, rfl⟩
  obtain ⟨RK, hRK⟩ : ∃ y, ratK x m = y := ⟨_, rfl⟩
  rw [hRQ, hRK] at HMK ⊢
  have hmb : (m : Int) ≤ 65536 := by omega
  have hm0 : (0 : Int) ≤ (m : Int) := by omega
  have DWU : Hid (IntKind.u64.wrap (m : Int) = (m : Int)) := Lib.hid (by rw [IntKind.wrap_u64]; omega)
  clear h hno hx hRQ hRK
  go_enter Tryz.func25, Tryz.ntmps25
  go_upto_region 1 with fail
  obtain ⟨W1, hW1⟩ : ∃ x9, ((w.alloc (.cells #[.bool (decide (x < 0)), .slice a (dig 18446744073709551616 x.natAbs).length c] 56)).alloc (.cells #[.bool false, .slice none 0 0, .slice none 0 0] 62)) = x9 := ⟨_, rfl⟩
  have HN1 := Lib.hid (HN.out.next F1.out.bel)
  rw [hW1] at F1 HN1 ⊢
  clear hW1 HN
  refine wp_region_parts2 (w := W1) 5 1 none [] [(fun u _ => u = .agg #[.bool (decide (x < 0)), .slice a (dig 18446744073709551616 x.natAbs).length c]), (fun u _ => u = .int .i64 (m : Int)), (fun u _ => u = .int .u64 (m : Int)), ((IsNat m)), ((IsRat RQ RK))] [some 5, some 6, some 7, some 8, some 9, none] #[true, true, true, true, true, false] #[true, true, true, true, true, false] (by kernel_rfl) rfl (by kernel_rfl) (by kernel_rfl) rfl (by kernel_rfl) (by kernel_rfl) (.cons (carries_eq _) (.cons (carries_eq _) (.cons (carries_eq _) (.cons (isNat_carries _) (.cons (isRat_carries _ _) .nil))))) (fun vs b hvl hvb => ?_)
  obtain ⟨x0, x1, x2, x3, x4, x5, rfl⟩ : ∃ x0 x1 x2 x3 x4 x5, vs = [x0, x1, x2, x3, x4, x5] := lst6 hvl
  clear hvl
  simp only [putAll, Act.put, List.setIfInBounds_toArray, List.set_cons_zero, List.set_cons_succ] at hvb
  subst hvb
  refine ⟨(.snoc (.snoc (.snoc (.snoc (.snoc .zero (PartOb.intro (d := (some 5)) (r := fun u _ => u = .agg #[.bool (decide (x < 0)), .slice a (dig 18446744073709551616 x.natAbs).length c]) rfl rfl rfl rfl ?po1x0)) (PartOb.intro (d := (some 6)) (r := fun u _ => u = .int .i64 (m : Int)) rfl rfl rfl rfl ?po1x1)) (PartOb.intro (d := (some 7)) (r := fun u _ => u = .int .u64 (m : Int)) rfl rfl rfl rfl ?po1x2)) (PartOb.intro (d := (some 8)) (r := (IsNat m)) rfl rfl rfl rfl ?po1x3)) (PartOb.intro (d := (some 9)) (r := (IsRat RQ RK)) rfl rfl rfl rfl ?po1x4)), ?pend1, ?pfl1⟩
  case po1x0 =>
    intro w1 hb1 hd KK hK
    clear hd
    have hF := F1.out.next hb1
    have k0 := hF.c 0 0 rfl rfl
    have k1 := hF.c 0 1 rfl rfl
    simp only [Act.put, List.setIfInBounds_toArray, List.set_cons_zero, List.set_cons_succ] at hK
    go_simp
    first | exact hK.out _ _ (Below.refl _ _) rfl | (have hk := hK.out _ _ (Below.refl _ _) rfl; revert hk; go_simp)
  case po1x1 =>
    intro w1 hb1 hd KK hK
    clear hd
    simp only [Act.put, List.setIfInBounds_toArray, List.set_cons_zero, List.set_cons_succ] at hK
    go_simp
    first | exact hK.out _ _ (Below.refl _ _) rfl | (have hk := hK.out _ _ (Below.refl _ _) rfl; revert hk; go_simp)
  case po1x2 =>
    intro w1 hb1 hd KK hK
    have d1 : x1 = .int .i64 (m : Int) := hd 1 (by kernel_rfl)
    clear hd
    subst d1
    have dx := DWU.out
    simp only [Act.put, List.setIfInBounds_toArray, List.set_cons_zero, List.set_cons_succ] at hK
    go_simp
    first | exact hK.out _ _ (Below.refl _ _) rfl | (have hk := hK.out _ _ (Below.refl _ _) rfl; revert hk; go_simp)
  case po1x3 =>
    intro w1 hb1 hd KK hK
    have d2 : x2 = .int .u64 (m : Int) := hd 2 (by kernel_rfl)
    clear hd
    subst d2
    simp only [Act.put, List.setIfInBounds_toArray, List.set_cons_zero, List.set_cons_succ] at hK
    go_simp
    go_at_call 47
    refine (HNO.out w1).mono ?_
    rintro e w2 ⟨a2, c2, rfl, hN2, hb⟩
    (try go_wp2_with fail)
    first | exact hK.out _ _ hb ⟨a2, c2, rfl, hN2⟩ | (have hk := hK.out _ _ hb ⟨a2, c2, rfl, hN2⟩; revert hk; go_simp)
  case po1x4 =>
    intro w1 hb1 hd KK hK
    have d0 : x0 = .agg #[.bool (decide (x < 0)), .slice a (dig 18446744073709551616 x.natAbs).length c] := hd 0 (by kernel_rfl)
    have d3 : (IsNat m) x3 w1 := hd 3 (by kernel_rfl)
    clear hd
    subst d0
    obtain ⟨a3z, c3z, rfl, hN3⟩ := d3
    simp only [Act.put, List.setIfInBounds_toArray, List.set_cons_zero, List.set_cons_succ] at hK
    go_simp
    go_at_call 51
    refine (HMK.out _ _ _ _ w1 (HN1.out.next hb1) hN3).mono ?_
    rintro e w2 ⟨a2, c2, b2, d2, rfl, hN2, hM2, hb⟩
    (try go_wp2_with fail)
    first | exact hK.out _ _ hb ⟨a2, c2, b2, d2, rfl, hN2, hM2⟩ | (have hk := hK.out _ _ hb ⟨a2, c2, b2, d2, rfl, hN2, hM2⟩; revert hk; go_simp)
  case pfl1 => (intro f hf; cases hf)
  case pend1 =>
  intro w1 hb1 hR hD
  have d0 : x0 = .agg #[.bool (decide (x < 0)), .slice a (dig 18446744073709551616 x.natAbs).length c] := hR 0 (by decide)
  have d1 : x1 = .int .i64 (m : Int) := hR 1 (by decide)
  have d2 : x2 = .int .u64 (m : Int) := hR 2 (by decide)
  have d3 : (IsNat m) x3 w1 := hR 3 (by decide)
  have d4 : (IsRat RQ RK) x4 w1 := hR 4 (by decide)
  clear hR hD
  subst d0
  subst d1
  subst d2
  obtain ⟨a3z, c3z, rfl, hN3⟩ := d3
  obtain ⟨a4z, c4z, b4z, d4z, rfl, hN4, hM4⟩ := d4
  refine wpAny_ready (rs := [5]) (by kernel_rfl) (by simp) (AllReady.cons rfl (fun KK hK => ?_) AllReady.nil)
  have G9 := F1.out.next hb1
  have k0 := G9.c 1 0 rfl rfl
  have k1 := G9.c 1 1 rfl rfl
  have k2 := G9.c 1 2 rfl rfl
  have f0 := G9.f 1 0 rfl rfl
  have f1 := G9.f 1 1 rfl rfl
  have f2 := G9.f 1 2 rfl rfl
  go_simp
  refine hK _ _ ?_
  clear hK KK
  try simp only [putAll, Act.put, List.setIfInBounds_toArray, List.set_cons_zero, List.set_cons_succ]
  refine wpAny_done (by kernel_rfl) ?_ _
  have FZ := G9.set 1 rfl (by simp) [.bool (decide (RQ < 0)), .slice a4z (dig 18446744073709551616 RQ.natAbs).length c4z, .slice b4z (dig 18446744073709551616 RK).length d4z] rfl
  simp only [setL, Nat.reduceAdd, List.set_cons_zero, List.set_cons_succ] at FZ
  have y0 := FZ.c 1 0 rfl rfl
  have y1 := FZ.c 1 1 rfl rfl
  have y2 := FZ.c 1 2 rfl rfl
  have s1 := fun (a9 : Option Addr) (c9 m9 : Nat) (h9 : NAt w1 w1.heap.size a9 c9 m9) => nat_set (q := w.heap.size + 1) (o := 2) (v' := .slice b4z (dig 18446744073709551616 RK).length d4z) (nat_set (q := w.heap.size + 1) (o := 1) (v' := .slice a4z (dig 18446744073709551616 RQ.natAbs).length c4z) (nat_set (q := w.heap.size + 1) (o := 0) (v' := .bool (decide (RQ < 0))) h9 k0 (by simp)) (v := .slice none 0 0) (by go_simp) (by simp)) (v := .slice none 0 0) (by go_simp) (by simp)
  have n1 := s1 _ _ _ hN4
  have n2 := s1 _ _ _ hM4
  clear s1
  go_wp2
  refine bodyPost_ret (by rw [results_cZ rfl]; go_simp) rfl ⟨a4z, c4z, b4z, d4z, rfl, n1, n2, FZ.bel⟩
end Go.Proofs.YtinboddfmojodaaGreat
