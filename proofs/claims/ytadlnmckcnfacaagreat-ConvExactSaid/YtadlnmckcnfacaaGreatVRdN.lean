import Derived.Test.YtadlnmckcnfacaaGreatRows
import Derived.Test.YtadlnmckcnfacaaGreatVRdB
import Derived.BigQuiet
import Derived.BigRegion
import Derived.Deep.Cut
import Derived.Deep.CutBlock
import Derived.Deep.CutRange
import Derived.Deep.RegionHeld3
import Derived.Deep.RegionWith
import Derived.WalkMore
set_option linter.unusedVariables false
set_option linter.unusedSimpArgs false
namespace Go.Proofs.YtadlnmckcnfacaaGreat
open Go.RowKit Go.Rt
def valB (B : Nat) : List Int → Nat
 | [] => 0
 | x :: r => x.toNat + B * valB B r
theorem digF_fuel {B : Nat} (hB : 2 ≤ B) : ∀ (f g m : Nat), m ≤ f → m ≤ g → digF B f m = digF B g m
 | 0, 0, _, _, _ => rfl
 | 0, g + 1, m, h, _ => by
  have : m = 0 := by omega
  subst this
  rfl
 | f + 1, 0, m, _, h => by
  have : m = 0 := by omega
  subst this
  rfl
 | f + 1, g + 1, m, h, h2 => by
  rw [digF, digF]
  by_cases h0 : m = 0
  ·rw [if_pos h0, if_pos h0]
  ·have h3 : m / B < m := Nat.div_lt_self (by omega) hB
   rw [if_neg h0, if_neg h0, digF_fuel hB f g (m / B) (by omega) (by omega)]
theorem dig_zero (B : Nat) : dig B 0 = [] := rfl
theorem dig_pos {B m : Nat} (hB : 2 ≤ B) (h : m ≠ 0) : dig B m = ((m % B : Nat) : Int) :: dig B (m / B) := by
 obtain ⟨k, rfl⟩ : ∃ k, m = k + 1 := ⟨m - 1, by omega⟩
 have h3 : (k + 1) / B < k + 1 := Nat.div_lt_self (by omega) hB
 unfold dig
 rw [digF, if_neg h, digF_fuel hB k ((k + 1) / B) ((k + 1) / B) (by omega) (Nat.le_refl _)]
theorem val_dig {B : Nat} (hB : 2 ≤ B) (m : Nat) : valB B (dig B m) = m := by
 induction m using Nat.strongRecOn with
 | ind m ih =>
  by_cases h : m = 0
  ·subst h; rfl
  ·rw [dig_pos hB h, valB, ih _ (Nat.div_lt_self (by omega) hB)]
   rw [Int.toNat_natCast]
   exact Nat.mod_add_div m B
theorem dig_rng {B : Nat} (hB : 2 ≤ B) (m : Nat) : Rng B (dig B m) := by
 induction m using Nat.strongRecOn with
 | ind m ih =>
  by_cases h : m = 0
  ·subst h
   intro x hx
   cases hx
  ·rw [dig_pos hB h]
   intro x hx
   rcases List.mem_cons.1 hx with rfl | hx
   ·have := Nat.mod_lt m (show 0 < B by omega)
    omega
   ·exact ih _ (Nat.div_lt_self (by omega) hB) x hx
theorem dig_ne_nil {B m : Nat} (hB : 2 ≤ B) (h : m ≠ 0) : dig B m ≠ [] := by
 rw [dig_pos hB h]
 simp
theorem dig_len_zero {B m : Nat} (hB : 2 ≤ B) : (dig B m).length = 0 ↔ m = 0 := by
 constructor
 ·intro h
  by_cases h0 : m = 0
  ·exact h0
  ·exact absurd (List.length_eq_zero_iff.1 h) (dig_ne_nil hB h0)
 ·rintro rfl; rfl
def Top (xs : List Int) : Prop := xs = [] ∨ xs[xs.length - 1]?.getD 0 ≠ 0
theorem Top.tail {x : Int} {r : List Int} (h : Top (x :: r)) (hr : r ≠ []) : Top r := by
 have hl : 0 < r.length := List.length_pos_iff.2 hr
 rcases h with h | h
 ·cases h
 ·refine .inr ?_
  have e : (x :: r).length - 1 = (r.length - 1) + 1 := by simp; omega
  rw [e, List.getElem?_cons_succ] at h
  exact h
theorem valB_zero {B : Nat} (hB : 2 ≤ B) : ∀ {xs : List Int}, Rng B xs → Top xs → valB B xs = 0 → xs = []
 | [], _, _, _ => rfl
 | x :: r, hr, ht, h => by
  rw [valB] at h
  have h1 : x.toNat = 0 := by omega
  have h2 : valB B r = 0 := by
   have : B * valB B r = 0 := by omega
   rcases Nat.mul_eq_zero.1 this with h | h
   ·omega
   ·exact h
  have hx := hr x (by simp)
  have x0 : x = 0 := by omega
  by_cases hrn : r = []
  ·subst hrn
   rcases ht with h | h
   ·cases h
   ·exact absurd (by simp [x0]) h
  ·exact absurd (valB_zero hB (fun y hy => hr y (by simp [hy])) (ht.tail hrn) h2) hrn
theorem dig_unique {B : Nat} (hB : 2 ≤ B) : ∀ {xs : List Int}, Rng B xs → Top xs → dig B (valB B xs) = xs
 | [], _, _ => rfl
 | x :: r, hr, ht => by
  have hx := hr x (by simp)
  have hne : valB B (x :: r) ≠ 0 := fun h => by cases valB_zero hB hr ht h
  rw [dig_pos hB hne, valB]
  have hxB : x.toNat < B := by omega
  have e1 : (x.toNat + B * valB B r) % B = x.toNat := by rw [Nat.add_mul_mod_self_left, Nat.mod_eq_of_lt hxB]
  have e2 : (x.toNat + B * valB B r) / B = valB B r := by rw [Nat.add_mul_div_left _ _ (by omega), Nat.div_eq_of_lt hxB, Nat.zero_add]
  rw [e1, e2]
  by_cases hrn : r = []
  ·subst hrn
   simp [valB, dig_zero]
   omega
  ·rw [dig_unique hB (fun y hy => hr y (by simp [hy])) (ht.tail hrn)]
   congr 1
   omega
theorem valB_append (B : Nat) : ∀ xs ys : List Int, valB B (xs ++ ys) = valB B xs + B ^ xs.length * valB B ys
 | [], ys => by simp [valB]
 | x :: r, ys => by
  rw [List.cons_append, valB, valB, valB_append B r ys, List.length_cons, Nat.pow_succ, Nat.mul_add, Nat.mul_comm (B ^ r.length) B, Nat.mul_assoc, Nat.add_assoc]
theorem valB_take_succ (B : Nat) (xs : List Int) (k : Nat) (h : k < xs.length) : valB B (xs.take (k + 1)) = valB B (xs.take k) + B ^ k * (xs[k]?.getD 0).toNat := by
 have hl : (xs.take k).length = k := by simp; omega
 rw [List.take_succ_eq_append_getElem h, valB_append, hl, List.getElem?_eq_getElem h]
 simp [valB]
theorem valB_lt {B : Nat} (hB : 2 ≤ B) : ∀ {xs : List Int}, Rng B xs → valB B xs < B ^ xs.length
 | [], _ => by simp [valB]
 | x :: r, hr => by
  have hx := hr x (by simp)
  have ih := valB_lt hB (xs := r) (fun y hy => hr y (by simp [hy]))
  rw [valB, List.length_cons, Nat.pow_succ, Nat.mul_comm (B ^ r.length) B]
  have h1 : B * (valB B r + 1) ≤ B * B ^ r.length := Nat.mul_le_mul (Nat.le_refl _) ih
  rw [Nat.mul_add, Nat.mul_one] at h1
  omega
theorem Rng.take {B : Nat} {xs : List Int} (h : Rng B xs) (k : Nat) : Rng B (xs.take k) := fun x hx => h x (List.mem_of_mem_take hx)
theorem Rng.append {B : Nat} {xs ys : List Int} (h : Rng B xs) (h2 : Rng B ys) : Rng B (xs ++ ys) := fun x hx => by
 rcases List.mem_append.1 hx with hx | hx
 ·exact h x hx
 ·exact h2 x hx
theorem valB_drop_zero {B : Nat} : ∀ (xs : List Int) (n : Nat), (∀ i, n ≤ i → xs[i]?.getD 0 = 0) → valB B (xs.take n) = valB B xs
 | [], n, _ => by simp
 | x :: r, 0, h => by
  have hx : x = 0 := by simpa using h 0 (Nat.le_refl _)
  have ih := valB_drop_zero (B := B) r 0 (fun i _ => by simpa using h (i + 1) (by omega))
  rw [List.take_zero] at ih ⊢
  rw [valB, valB, ← ih, hx]
  simp [valB]
 | x :: r, n + 1, h => by
  have ih := valB_drop_zero (B := B) r n (fun i hi => by simpa using h (i + 1) (by omega))
  rw [List.take_succ_cons, valB, valB, ih]
theorem trim_dig {B : Nat} (hB : 2 ≤ B) {xs : List Int} {n : Nat} (hr : Rng B xs) (hn : n ≤ xs.length) (h0 : ∀ i, n ≤ i → xs[i]?.getD 0 = 0) (ht : n = 0 ∨ xs[n - 1]?.getD 0 ≠ 0) : xs.take n = dig B (valB B xs) := by
 have e := valB_drop_zero (B := B) xs n h0
 have hl : (xs.take n).length = n := by simp; omega
 rw [← e]
 refine (dig_unique hB (hr.take n) ?_).symm
 rcases ht with rfl | ht
 ·exact .inl (by simp)
 ·by_cases hz : n = 0
  ·subst hz; exact .inl (by simp)
  ·refine .inr ?_
   rw [hl, List.getElem?_take, if_pos (by omega)]
   exact ht
theorem dig_len_le {B : Nat} (hB : 2 ≤ B) (k : Nat) : ∀ m, m < B ^ k → (dig B m).length ≤ k := by
 induction k with
 | zero =>
  intro m h
  have : m = 0 := by simpa using h
  subst this
  exact Nat.le_refl _
 | succ k ih =>
  intro m h
  by_cases h0 : m = 0
  ·subst h0; exact Nat.zero_le _
  ·rw [dig_pos hB h0, List.length_cons]
   have h2 : m / B < B ^ k := by
    rw [Nat.pow_succ] at h
    exact Nat.div_lt_of_lt_mul (by rw [Nat.mul_comm]; exact h)
   exact Nat.succ_le_succ (ih _ h2)
theorem lt_dig_len {B : Nat} (hB : 2 ≤ B) (m : Nat) : m < B ^ (dig B m).length := by
 have := valB_lt hB (dig_rng hB m)
 rwa [val_dig hB] at this
theorem dig_len_mono {B : Nat} (hB : 2 ≤ B) {m n : Nat} (h : m ≤ n) : (dig B m).length ≤ (dig B n).length :=
 dig_len_le hB _ m (Nat.lt_of_le_of_lt h (lt_dig_len hB n))
def half2 (xs : List Int) : List Int := xs.flatMap fun x => [x % 4294967296, x / 4294967296]
theorem half2_rng {xs : List Int} (h : Rng 18446744073709551616 xs) : Rng 4294967296 (half2 xs) := by
 intro y hy
 obtain ⟨x, hx, hy⟩ := List.mem_flatMap.1 hy
 have := h x hx
 simp at hy
 rcases hy with rfl | rfl <;> omega
theorem half2_val : ∀ {xs : List Int}, Rng 18446744073709551616 xs → valB 4294967296 (half2 xs) = valB 18446744073709551616 xs
 | [], _ => rfl
 | x :: r, h => by
  have hx := h x (by simp)
  have ih := half2_val (xs := r) (fun y hy => h y (by simp [hy]))
  have e : half2 (x :: r) = x % 4294967296 :: x / 4294967296 :: half2 r := rfl
  rw [e, valB, valB, valB, ih]
  omega
theorem half2_take (xs : List Int) (k : Nat) (h : k < xs.length) : half2 (xs.take (k + 1)) = half2 (xs.take k) ++ [xs[k] % 4294967296, xs[k] / 4294967296] := by
 rw [List.take_succ_eq_append_getElem h]
 unfold half2
 rw [List.flatMap_append]
 rfl
theorem half2_len : ∀ (xs : List Int), (half2 xs).length = 2 * xs.length
 | [] => rfl
 | x :: r => by
  have e : half2 (x :: r) = x % 4294967296 :: x / 4294967296 :: half2 r := rfl
  rw [e, List.length_cons, List.length_cons, half2_len r, List.length_cons]
  omega
theorem infoU64n : (Tryz.prog.info? 72).map (fun i => (i.zero, i.size, i.bytes)) = some (some (.int .u64 0), 1, 8) := by kernel_rfl
theorem infoU32n : (Tryz.prog.info? 138).map (fun i => (i.zero, i.size, i.bytes)) = some (some (.int .u32 0), 1, 4) := by kernel_rfl
theorem wf_u32_iff {x : Int} : (Lit.int .u32 x).wf = true ↔ 0 ≤ x ∧ x ≤ 4294967295 := by
 simp [Lit.wf, IntKind.min, IntKind.max, IntKind.signed, IntKind.bits]
theorem rng64 {w : World} {hi : Nat} {a : Option Addr} {xs : List Int} (h : Ints .u64 w hi a xs) : Rng 18446744073709551616 xs := fun x hx => by have := wf_u64_iff.1 (h.wf x hx); omega
theorem rng32 {w : World} {hi : Nat} {a : Option Addr} {xs : List Int} (h : Ints .u32 w hi a xs) : Rng 4294967296 xs := fun x hx => by have := wf_u32_iff.1 (h.wf x hx); omega
theorem intsTakeN {k : IntKind} {w : World} {hi : Nat} {a : Option Addr} {xs : List Int} (h : Ints k w hi a xs) (j : Nat) : Ints k w hi a (xs.take j) :=
 ⟨by have := h.len; simp; omega, fun x hx => h.wf x (List.mem_of_mem_take hx), fun i hi' => by
  have hl : i < xs.length ∧ i < j := by simp at hi'; omega
  obtain ⟨b, off, ha, hlt, hc⟩ := h.cell i hl.1
  refine ⟨b, off, ha, hlt, ?_⟩
  rw [hc, List.getElem?_take, if_pos hl.2]⟩
theorem dig_is_take {B : Nat} (hB : 2 ≤ B) : ∀ {xs : List Int}, Rng B xs → dig B (valB B xs) = xs.take (dig B (valB B xs)).length := by
 intro xs
 induction xs with
 | nil => intro _; rfl
 | cons x r ih =>
  intro hr
  have hx := hr x (by simp)
  have hrr : Rng B r := fun y hy => hr y (by simp [hy])
  by_cases h0 : valB B (x :: r) = 0
  ·rw [h0, dig_zero]; rfl
  ·rw [dig_pos hB h0]
   have e1 : valB B (x :: r) % B = x.toNat := by rw [valB, Nat.add_mul_mod_self_left, Nat.mod_eq_of_lt (by omega)]
   have e2 : valB B (x :: r) / B = valB B r := by rw [valB, Nat.add_mul_div_left _ _ (by omega), Nat.div_eq_of_lt (by omega), Nat.zero_add]
   rw [e1, e2, List.length_cons, List.take_succ_cons, ← ih hrr]
   congr 1
   omega
set_option maxHeartbeats 1000000 in
theorem ntrim_any (a : Option Addr) (c hi : Nat) (xs : List Int) (w : World) (h : Ints .u64 w hi a xs) (hc1 : xs.length ≤ c) (hc2 : c ≤ 9223372036854775807) :
  Calls Tryz.prog 65 #[.slice a xs.length c] w fun e w' => e = .returned (.slice a (dig 18446744073709551616 (valB 18446744073709551616 xs)).length c) ∧ w = w' := by
 have hr := Lib.hid (rng64 h)
 obtain ⟨hm, _, hc⟩ := h
 go_enter Tryz.func65, Tryz.ntmps65
 go_wp2
 go_loopw [3] (fun i wr => ∃ k : Nat, k ≤ xs.length ∧ i = .int .i64 k ∧ Hid (∀ j, k ≤ j → xs[j]?.getD 0 = 0) ∧ wr = w) (fun i _ => (intOf i).toNat)
 case atStart => exact ⟨xs.length, Nat.le_refl _, rfl, Lib.hid (fun j hj => by rw [List.getElem?_eq_none hj]; rfl), rfl⟩
 case round =>
  obtain ⟨k, hk, rfl, HZ, rfl⟩ := hrel
  by_cases h0 : k = 0
  ·subst h0
   have hd : xs.take 0 = dig 18446744073709551616 (valB 18446744073709551616 xs) := trim_dig (by decide) hr.out (Nat.zero_le _) HZ.out (.inl rfl)
   have hl : (dig 18446744073709551616 (valB 18446744073709551616 xs)).length = 0 := by rw [← hd]; simp
   have HL := Lib.hid hl
   clear hc hd hl
   go_wp2
   go_ret
   exact ⟨by rw [HL.out]; rfl, rfl⟩
  ·obtain ⟨b, off, rfl, hlb, hcell⟩ := hc (k - 1) (by omega)
   clear hc
   have hk1 : (0 : Int) < (k : Int) := by omega
   have ew : IntKind.i64.wrap ((k : Int) - 1) = ((k - 1 : Nat) : Int) := by rw [IntWalk.i64_left]; unfold RowKit.wrap64; omega
   have ew2 : RowKit.wrap64 ((k : Int) - 1) = ((k - 1 : Nat) : Int) := by unfold RowKit.wrap64; omega
   have hb1 : k - 1 < xs.length := by omega
   by_cases hx : xs[k - 1]?.getD 0 = 0
   ·have HZ2 : Hid (∀ j, k - 1 ≤ j → xs[j]?.getD 0 = 0) := Lib.hid (fun j hj => by
     by_cases he : j = k - 1
     ·rw [he]; exact hx
     ·exact HZ.out j (by omega))
    rw [hx] at hcell
    go_wp2
    go_roundw
    case rel => exact ⟨k - 1, by omega, by first | rfl | go_num, HZ2, trivial⟩
    case measure => simp [intOf]; omega
   ·have hd : xs.take k = dig 18446744073709551616 (valB 18446744073709551616 xs) := trim_dig (by decide) hr.out hk HZ.out (.inr hx)
    have hl : (dig 18446744073709551616 (valB 18446744073709551616 xs)).length = k := by rw [← hd]; simp; omega
    have HL := Lib.hid hl
    have e5 : (xs[k - 1]?.getD 0 == 0) = false := by simp; exact hx
    generalize xs[k - 1]?.getD 0 = x at hcell e5
    clear hx hd hl
    go_wp2
    go_ret
    exact ⟨by rw [HL.out]; rfl, rfl⟩
set_option maxHeartbeats 1000000 in
theorem cut_any (a : Option Addr) (c hi : Nat) (xs : List Int) (w : World) (h : Ints .u32 w hi a xs) (hc1 : xs.length ≤ c) (hc2 : c ≤ 9223372036854775807) :
  Calls Tryz.prog 89 #[.slice a xs.length c] w fun e w' => e = .returned (.slice a (dig 4294967296 (valB 4294967296 xs)).length c) ∧ w = w' := by
 have hr := Lib.hid (rng32 h)
 obtain ⟨hm, _, hc⟩ := h
 go_enter Tryz.func89, Tryz.ntmps89
 go_wp2
 go_loopw [3] (fun i wr => ∃ k : Nat, k ≤ xs.length ∧ i = .int .i64 k ∧ Hid (∀ j, k ≤ j → xs[j]?.getD 0 = 0) ∧ wr = w) (fun i _ => (intOf i).toNat)
 case atStart => exact ⟨xs.length, Nat.le_refl _, rfl, Lib.hid (fun j hj => by rw [List.getElem?_eq_none hj]; rfl), rfl⟩
 case round =>
  obtain ⟨k, hk, rfl, HZ, rfl⟩ := hrel
  by_cases h0 : k = 0
  ·subst h0
   have hd : xs.take 0 = dig 4294967296 (valB 4294967296 xs) := trim_dig (by decide) hr.out (Nat.zero_le _) HZ.out (.inl rfl)
   have hl : (dig 4294967296 (valB 4294967296 xs)).length = 0 := by rw [← hd]; simp
   have HL := Lib.hid hl
   clear hc hd hl
   go_wp2
   go_ret
   exact ⟨by rw [HL.out]; rfl, rfl⟩
  ·obtain ⟨b, off, rfl, hlb, hcell⟩ := hc (k - 1) (by omega)
   clear hc
   have hk1 : (0 : Int) < (k : Int) := by omega
   have ew : IntKind.i64.wrap ((k : Int) - 1) = ((k - 1 : Nat) : Int) := by rw [IntWalk.i64_left]; unfold RowKit.wrap64; omega
   have ew2 : RowKit.wrap64 ((k : Int) - 1) = ((k - 1 : Nat) : Int) := by unfold RowKit.wrap64; omega
   have hb1 : k - 1 < xs.length := by omega
   by_cases hx : xs[k - 1]?.getD 0 = 0
   ·have HZ2 : Hid (∀ j, k - 1 ≤ j → xs[j]?.getD 0 = 0) := Lib.hid (fun j hj => by
     by_cases he : j = k - 1
     ·rw [he]; exact hx
     ·exact HZ.out j (by omega))
    rw [hx] at hcell
    go_wp2
    go_roundw
    case rel => exact ⟨k - 1, by omega, by first | rfl | go_num, HZ2, trivial⟩
    case measure => simp [intOf]; omega
   ·have hd : xs.take k = dig 4294967296 (valB 4294967296 xs) := trim_dig (by decide) hr.out hk HZ.out (.inr hx)
    have hl : (dig 4294967296 (valB 4294967296 xs)).length = k := by rw [← hd]; simp; omega
    have HL := Lib.hid hl
    have e5 : (xs[k - 1]?.getD 0 == 0) = false := by simp; exact hx
    generalize xs[k - 1]?.getD 0 = x at hcell e5
    clear hx hd hl
    go_wp2
    go_ret
    exact ⟨by rw [HL.out]; rfl, rfl⟩
def RetN (w : World) (m : Nat) (e : Ending) (w' : World) : Prop :=
 ∃ a c, e = .returned (.slice a (dig 18446744073709551616 m).length c) ∧ NAt w' w'.heap.size a c m ∧ Below w.heap.size w w'
def RetH (w : World) (m : Nat) (e : Ending) (w' : World) : Prop :=
 ∃ a c, e = .returned (.slice a (dig 4294967296 m).length c) ∧ HAt w' w'.heap.size a c m ∧ Below w.heap.size w w'
theorem nat_of_ints {w : World} {hi : Nat} {a : Option Addr} {c : Nat} {xs : List Int} (h : Ints .u64 w hi a xs) (hc : xs.length ≤ c ∧ c ≤ 9223372036854775807) : NAt w hi a c (valB 18446744073709551616 xs) := by
 have e := dig_is_take (B := 18446744073709551616) (by decide) (rng64 h)
 have hl : (dig 18446744073709551616 (valB 18446744073709551616 xs)).length ≤ xs.length := by rw [e]; simp; omega
 refine ⟨?_, by omega, hc.2⟩
 rw [e]
 exact intsTakeN h _
theorem dig_of_ints {w : World} {hi : Nat} {a : Option Addr} {c : Nat} {xs : List Int} (h : Ints .u32 w hi a xs) (hc : xs.length ≤ c ∧ c ≤ 9223372036854775807) : HAt w hi a c (valB 4294967296 xs) := by
 have e := dig_is_take (B := 4294967296) (by decide) (rng32 h)
 have hl : (dig 4294967296 (valB 4294967296 xs)).length ≤ xs.length := by rw [e]; simp; omega
 refine ⟨?_, by omega, hc.2⟩
 rw [e]
 exact intsTakeN h _
theorem wpl_append1b {P : Program} {w : World} {ops : Array Oper} {rest : List Oper} {o : Oper} {a : Act} {Q : Exit → Act → World → Prop} (T E : TypeId) (k : IntKind) (nb : Nat) (hnb : nb ≤ 8)
  (hinf : (P.info? E).map (fun i => (i.zero, i.size, i.bytes)) = some (some (.int k 0), 1, nb)) (hu : P.underlying T = some (.slice E))
  (base : Nat) (v : Value) (n : Nat) (xs : List Int) (y : Int) (cap : Nat) (s x : Operand) (hg : o.guard = none) (ho : o.op = .call { callee := .builtin .append, args := #[s, x], argTypes := #[T, T] })
  (hs : a.eval s = v) (hown : w.ownsRow base E 1 v n (xs.map (Value.int k))) (hx : a.eval x = .slice (some ⟨w.heap.size, 0, none⟩) 1 cap) (hn : n ≤ 17592186044415) (hb : base ≤ w.heap.size)
  (hK : ∀ v' w', w'.ownsRow base E 1 v' (n + 1) ((xs ++ [y]).map (Value.int k)) → (∀ B W0, B ≤ base → Below B W0 w → Below B W0 w') → w.grownBy w' v.ownBlock →
   wpList P ops Q rest (a.put o.dst v') w') : wpList P ops Q (o :: rest) a (w.alloc (.cells #[.int k y] E)) := by
 obtain ⟨i, hi, hz0, hz1, hz2⟩ := info_parts hinf
 refine wpList_append_own _ hg s x T ho base E i (.int k 0) 1 nb hu hi hz0 hz1 hz2 rfl (by decide) v n _ hs (hown.alloc _) ⟨w.heap.size, 0, none⟩ 1 cap [.int k y] hx rfl (cell_one_new _ _ _)
  (by simp [Value.oneCell']) (by unfold maxLen; omega) (Nat.le_trans (Nat.mul_le_mul (Nat.le_refl (n + 1)) hnb) (by omega)) (by simp; omega) ?_
 intro v' w' hown' hgrow _
 refine hK v' w' (by simpa using hown') (fun B W0 hB hbel => ?_) (grown_trans (World.grownBy_alloc w _ _) hgrow)
 have hlt := hown.lt
 refine (hbel.alloc (Nat.le_trans hB hb) _).grown hgrow (by simp; omega) (fun j hj => ?_)
 have := hlt j hj
 omega
theorem step_append2 {P : Program} {ops : Array Oper} {o : Oper} {a : Act} {w : World} {K : Act → World → Prop} {Q : Exit → Act → World → Prop} {E' : Prop} (T E : TypeId) (k : IntKind) (nb : Nat) (hnb : nb ≤ 8)
  (hinf : (P.info? E).map (fun i => (i.zero, i.size, i.bytes)) = some (some (.int k 0), 1, nb)) (hu : P.underlying T = some (.slice E))
  (base : Nat) (v : Value) (n : Nat) (xs : List Int) (y z : Int) (cap : Nat) (g : Nat) (s x : Operand) (dst : Option Tmp) (hd : o.dst = dst) (hg : o.guard = none) (ho : o.op = .call { callee := .builtin .append, args := #[s, x], argTypes := #[T, T] })
  (hs : a.eval s = v) (hown : w.ownsRow base E 1 v n (xs.map (Value.int k))) (hx : a.eval x = .slice (some ⟨g, 0, none⟩) 2 cap) (hc : w.cell? ⟨g, 0, none⟩ = some (.int k y)) (hc2 : w.cell? ⟨g, 1, none⟩ = some (.int k z)) (hn : n ≤ 17592186044414) (hb : base ≤ w.heap.size)
  (hK : ∀ v' w', w'.ownsRow base E 1 v' (n + 2) ((xs ++ [y, z]).map (Value.int k)) → (∀ B W0, B ≤ base → Below B W0 w → Below B W0 w') → K (a.put dst v') w') :
  if Region.wanted o (yielded ops a.tmps) = true then Oper.wp P o a w K Q else E' := by
 subst hd
 have hw : Region.wanted o (yielded ops a.tmps) = true := by simp [Region.wanted, hg]
 rw [if_pos hw]
 obtain ⟨i, hi, hz0, hz1, hz2⟩ := info_parts hinf
 refine wp_append_own w s x T ho base E i (.int k 0) 1 nb hu hi hz0 hz1 hz2 rfl (by decide) v n _ hs hown ⟨g, 0, none⟩ 2 cap [.int k y, .int k z] hx rfl (fun j u hj => ?_) (by simp [Value.oneCell']) (by unfold maxLen; omega) (Nat.le_trans (Nat.mul_le_mul (Nat.le_refl (n + 2)) hnb) (by omega)) hb ?_
 ·match j, hj with
  | 0, hj => simp at hj; subst hj; exact hc
  | 1, hj => simp at hj; subst hj; exact hc2
 ·intro v' w' hown' hgrow _
  refine hK v' w' (by simpa using hown') (fun B W0 hB hbel => ?_)
  have hlt := hown.lt
  refine hbel.grown hgrow (by have := hbel.size; omega) (fun j hj => ?_)
  have := hlt j hj
  omega
theorem own_cap1 {w : World} {base : Nat} {e : TypeId} {a : Option Addr} {n c : Nat} {xs : List Value} (h : w.ownsRow base e 1 (.slice a n c) n xs) : n ≤ c ∧ c ≤ 9223372036854775807 := by
 rcases h.2 with ⟨h1, h2⟩ | ⟨g, cap, cur, h1, _, _, h4, h5, _⟩
 ·cases h1
  omega
 ·cases h1
  unfold maxLen at h5
  omega
set_option maxHeartbeats 2000000 in
set_option maxRecDepth 100000 in
theorem halvesX_any (a : Option Addr) (c : Nat) (xs : List Int) (w : World) (h : Ints .u64 w w.heap.size a xs) (hn : xs.length ≤ 1000000000) :
  Calls Tryz.prog 87 #[.slice a xs.length c] w (RetH w (valB 18446744073709551616 xs)) := by
 have hr := Lib.hid (rng64 h)
 obtain ⟨hm, _, hc⟩ := h
 go_enter Tryz.func87, Tryz.ntmps87
 go_wp2
 go_loopw [3, 4] (fun v i wr => ∃ k : Nat, k ≤ xs.length ∧ i = .int .i64 k ∧ wr.ownsRow w.heap.size 138 1 v (2 * k) ((half2 (xs.take k)).map (Value.int .u32)) ∧ Below w.heap.size w wr) (fun _ i _ => xs.length - (intOf i).toNat)
 case atStart => exact ⟨0, Nat.zero_le _, rfl, World.ownsRow_nil _ _ _ _, Below.refl _ _⟩
 case round =>
  obtain ⟨k, hk, rfl, hown, hbel⟩ := hrel
  by_cases hlt : k < xs.length
  ·obtain ⟨b, off, rfl, hlb, hcell⟩ := hc k hlt
   clear hc
   have hrx := hr.out _ (List.getElem_mem hlt)
   rw [List.getElem?_eq_getElem hlt] at hcell
   simp only [Option.getD_some] at hcell
   have hc0 := hcell
   have hcr : wr.cell? ⟨b, off + k, none⟩ = some (.int .u64 xs[k]) := (hbel.cell (p := ⟨b, off + k, none⟩) hlb).trans hcell
   have hT := half2_take xs k hlt
   have HT := Lib.hid hT
   clear hT
   have HO := Lib.hid hown
   have HB := Lib.hid hbel
   have hsz := hbel.size
   clear hown hbel hcell
   generalize xs[k] = x at *
   have hk0 : (0 : Int) ≤ (k : Int) := by omega
   have hk1 : (k : Int) < (xs.length : Int) := by omega
   obtain ⟨wi, rfl⟩ : ∃ wi : World, wi = wr := ⟨_, rfl⟩
   have hnw : ¬ b = wi.heap.size := by omega
   go_upto_region 5 with fail
   have e1 := IntKind.wrap_u32 x
   have e2 : IntKind.u32.wrap (x / 4294967296) = x / 4294967296 := by rw [IntKind.wrap_u32]; omega
   refine wp_region_held_drew (S := (fun w' => w'.cell? ⟨b, off + k, none⟩ = some (.int .u64 x))) (by kernel_rfl) (by go_keep) (fun hHeld => ?_)
   refine takeY (i := 0) (dst := (some 11)) (v := ?_) rfl rfl (by kernel_rfl) (by kernel_rfl) (by kernel_rfl) (fun _ _ _ h => h) (by rfl) ?hy1w0 (by assumption) ?rest1w0
   case hy1w0 => (intro w hSw; (try dsimp only at hSw); go_simp; (try with_reducible rfl))
   refine takeY (i := 1) (dst := (some 12)) (v := ?_) rfl rfl (by kernel_rfl) (by kernel_rfl) (by kernel_rfl) (fun _ _ _ h => h) (by rfl) ?hy1w1 (by assumption) ?rest1w1
   case hy1w1 => (intro w hSw; (try dsimp only at hSw); go_simp; (try with_reducible rfl))
   refine takeY (i := 2) (dst := (some 13)) (v := ?_) rfl rfl (by kernel_rfl) (by kernel_rfl) (by kernel_rfl) (fun _ _ _ h => h) (by rfl) ?hy1w2 (by assumption) ?rest1w2
   case hy1w2 => (intro w hSw; (try dsimp only at hSw); go_simp; (try with_reducible rfl))
   refine takeY (i := 3) (dst := (some 14)) (v := ?_) rfl rfl (by kernel_rfl) (by kernel_rfl) (by kernel_rfl) (fun _ _ _ h => h) (by rfl) ?hy1w3 (by assumption) ?rest1w3
   case hy1w3 => (intro w hSw; (try dsimp only at hSw); go_simp; (try with_reducible rfl))
   refine takeY (i := 4) (dst := (some 15)) (v := ?_) rfl rfl (by kernel_rfl) (by kernel_rfl) (by kernel_rfl) (fun _ _ _ h => h) (by rfl) ?hy1w4 (by assumption) ?rest1w4
   case hy1w4 => (intro w hSw; (try dsimp only at hSw); go_simp; (try with_reducible rfl))
   refine takeY (i := 5) (dst := (some 16)) (v := ?_) rfl rfl (by kernel_rfl) (by kernel_rfl) (by kernel_rfl) (fun _ _ _ h => h) (by rfl) ?hy1w5 (by assumption) ?rest1w5
   case hy1w5 => (intro w hSw; (try dsimp only at hSw); go_simp; (try with_reducible rfl))
   refine takeY (i := 6) (dst := (some 17)) (v := ?_) rfl rfl (by kernel_rfl) (by kernel_rfl) (by kernel_rfl) (fun _ _ _ h => h) (by rfl) ?hy1w6 (by assumption) ?rest1w6
   case hy1w6 => (intro w hSw; (try dsimp only at hSw); go_simp; (try with_reducible rfl))
   refine takeY (i := 7) (dst := (some 18)) (v := ?_) rfl rfl (by kernel_rfl) (by kernel_rfl) (by kernel_rfl) (fun _ _ _ h => h) (by rfl) ?hy1w7 (by assumption) ?rest1w7
   case hy1w7 => (intro w hSw; (try dsimp only at hSw); go_simp; (try with_reducible rfl))
   refine takeY (i := 8) (dst := (some 19)) (v := ?_) rfl rfl (by kernel_rfl) (by kernel_rfl) (by kernel_rfl) (fun _ _ _ h => h) (by rfl) ?hy1w8 (by assumption) ?rest1w8
   case hy1w8 => (intro w hSw; (try dsimp only at hSw); go_simp; (try with_reducible rfl))
   refine takeY (i := 9) (dst := (some 20)) (v := ?_) rfl rfl (by kernel_rfl) (by kernel_rfl) (by kernel_rfl) (fun _ _ _ h => h) (by rfl) ?hy1w9 (by assumption) ?rest1w9
   case hy1w9 => (intro w hSw; (try dsimp only at hSw); go_simp; (try with_reducible rfl))
   refine takeY (i := 10) (dst := (some 21)) (v := ?_) rfl rfl (by kernel_rfl) (by kernel_rfl) (by kernel_rfl) (fun _ _ _ h => h) (by rfl) ?hy1w10 (by assumption) ?rest1w10
   case hy1w10 => (intro w hSw; (try dsimp only at hSw); go_simp; (try with_reducible rfl))
   refine takeY (i := 11) (dst := (some 22)) (v := ?_) rfl rfl (by kernel_rfl) (by kernel_rfl) (by kernel_rfl) (fun _ _ _ h => h) (by rfl) ?hy1w11 (by assumption) ?rest1w11
   case hy1w11 => (intro w hSw; (try dsimp only at hSw); go_simp; (try with_reducible rfl))
   refine wpAnyH_ready (rs := [12]) (by kernel_rfl) (by simp) (AllReadyH.cons rfl (fun K hK => ?_) AllReadyH.nil)
   go_simp
   skip
   (try go_wp2_with fail)
   refine hK.out _ _ (by go_keep) (fun hHeld => ?_)
   clear hK K
   refine wpAnyH_ready (rs := [13]) (by kernel_rfl) (by simp) (AllReadyH.cons rfl (fun K hK => ?_) AllReadyH.nil)
   refine step_append2 136 138 .u32 4 (by decide) infoU32n Tryz.underlying136 w.heap.size u3 (2 * k) (half2 (xs.take k)) (x % 4294967296) (x / 4294967296) 2 wi.heap.size (.tmp 11) (.tmp 23) (some 24) rfl rfl rfl ?_ ?_ ?_ ?_ ?_ (by omega) (by simp; omega) ?_
   focus (simp [Act.eval, Act.put]; done)
   focus (exact HO.out.alloc _)
   focus (simp [Act.eval, Act.put]; done)
   focus (simp [go_sem]; done)
   focus (simp [go_sem]; done)
   intro v' w2 hown2 hbel2
   have HB2 := Lib.hid (hbel2 w.heap.size w (Nat.le_refl _) (Below.drew (HB.out.alloc hsz _)))
   have HO2 := Lib.hid hown2
   clear hown2 hbel2
   refine hK.out _ _ ((HB2.out.cell (p := ⟨b, off + k, none⟩) hlb).trans hc0) (fun hHeld => ?_)
   clear hK K
   refine takeY (i := 14) (dst := (some 3)) (v := ?_) rfl rfl (by kernel_rfl) (by kernel_rfl) (by kernel_rfl) (fun _ _ _ h => h) (by rfl) ?hy1w14 (by assumption) ?rest1w14
   case hy1w14 => (intro w hSw; (try dsimp only at hSw); go_simp; (try with_reducible rfl))
   refine wpAnyH_done (by kernel_rfl) ?_ _
   go_wp2
   go_roundw
   case rel => exact ⟨k + 1, by omega, by go_num, by rw [HT.out, show 2 * (k + 1) = 2 * k + 2 by omega]; exact HO2.out, HB2.out⟩
   case measure => simp [intOf]; omega
  ·have hke : k = xs.length := by omega
   subst hke
   rw [List.take_length, ← half2_len xs] at hown
   clear hc
   obtain ⟨a1, xsl, he, hI⟩ := own_ints hown (fun x hx => by have := half2_rng hr.out x hx; exact wf_u32_iff.2 ⟨by omega, by omega⟩)
   subst he
   have hcap := own_cap1 hown
   have HI := Lib.hid hI
   have HB := Lib.hid hbel
   have HV := Lib.hid (half2_val hr.out)
   have hl2 := half2_len xs
   have HC := Lib.hid (cut_any a1 xsl wr.heap.size (half2 xs) wr hI (by omega) (by omega))
   have HL := Lib.hid hl2
   clear hown hI hbel hl2
   go_wp2_with (go_at_call 89; refine HC.out.mono ?_; rintro e w2 ⟨rfl, rfl⟩)
   go_ret
   refine ⟨a1, xsl, by rw [← HV.out]; rfl, ?_, HB.out⟩
   rw [← HV.out]
   exact dig_of_ints HI.out ⟨hcap.1, hcap.2⟩
def pairL : List Int → List Int
 | [] => []
 | [x] => [x]
 | x :: y :: r => (x + y * 4294967296) :: pairL r
theorem pairL_append : ∀ (k : Nat) (xs ys : List Int), xs.length = 2 * k → pairL (xs ++ ys) = pairL xs ++ pairL ys
 | 0, [], ys, _ => rfl
 | k + 1, x :: y :: r, ys, h => by
  have hr : r.length = 2 * k := by simp at h; omega
  rw [List.cons_append, List.cons_append, pairL, pairL, pairL_append k r ys hr, List.cons_append]
theorem pairL_two (xs : List Int) (k : Nat) (h : 2 * k + 1 < xs.length) : pairL (xs.take (2 * k + 2)) = pairL (xs.take (2 * k)) ++ [xs[2 * k]?.getD 0 + xs[2 * k + 1]?.getD 0 * 4294967296] := by
 have e : xs.take (2 * k + 2) = xs.take (2 * k) ++ [xs[2 * k], xs[2 * k + 1]] := by
  have e1 := List.take_succ_eq_append_getElem h
  have e2 := List.take_succ_eq_append_getElem (show 2 * k < xs.length by omega)
  rw [e2, List.append_assoc] at e1
  exact e1
 rw [e, pairL_append k _ _ (by simp; omega), List.getElem?_eq_getElem h, List.getElem?_eq_getElem (show 2 * k < xs.length by omega)]
 rfl
theorem pairL_one (xs : List Int) (k : Nat) (h : 2 * k < xs.length) (h2 : xs.length ≤ 2 * k + 1) : pairL (xs.take (2 * k + 2)) = pairL (xs.take (2 * k)) ++ [xs[2 * k]?.getD 0] := by
 have e : xs.take (2 * k + 2) = xs.take (2 * k) ++ [xs[2 * k]] := by
  rw [List.take_of_length_le (by omega)]
  have := List.take_succ_eq_append_getElem h
  rw [List.take_of_length_le (by omega)] at this
  exact this
 rw [e, pairL_append k _ _ (by simp; omega), List.getElem?_eq_getElem h]
 rfl
theorem pairL_rng : ∀ {xs : List Int}, Rng 4294967296 xs → Rng 18446744073709551616 (pairL xs)
 | [], _ => fun x hx => by cases hx
 | [x], h => fun y hy => by
  have := h x (by simp)
  simp [pairL] at hy
  subst hy
  omega
 | x :: y :: r, h => fun z hz => by
  have h1 := h x (by simp)
  have h2 := h y (by simp)
  rw [pairL] at hz
  rcases List.mem_cons.1 hz with rfl | hz
  ·omega
  ·exact pairL_rng (xs := r) (fun q hq => h q (by simp [hq])) z hz
theorem pairL_val : ∀ {xs : List Int}, Rng 4294967296 xs → valB 18446744073709551616 (pairL xs) = valB 4294967296 xs
 | [], _ => rfl
 | [x], h => by simp [pairL, valB]
 | x :: y :: r, h => by
  have h1 := h x (by simp)
  have h2 := h y (by simp)
  have ih := pairL_val (xs := r) (fun q hq => h q (by simp [hq]))
  rw [pairL, valB, valB, valB, ih]
  omega
theorem pairL_len : ∀ (xs : List Int), 2 * (pairL xs).length ≤ xs.length + 1
 | [] => by simp [pairL]
 | [x] => by simp [pairL]
 | x :: y :: r => by
  have := pairL_len r
  rw [pairL, List.length_cons, List.length_cons, List.length_cons]
  omega
theorem u64_same (n : Int) (h0 : 0 ≤ n) (h1 : n < 2 ^ 64) : IntKind.u64.wrap n = n := by
 simp [IntKind.wrap, IntKind.bits, IntKind.signed]
 omega
theorem or_turn (x y : Int) (hx : 0 ≤ x ∧ x < 18446744073709551616) (hy : 0 ≤ y ∧ y < 18446744073709551616) : bits BinOp.or IntKind.u64 x y = bits BinOp.or IntKind.u64 y x := by
 obtain ⟨a, rfl⟩ := Int.eq_ofNat_of_zero_le hx.1
 obtain ⟨b, rfl⟩ := Int.eq_ofNat_of_zero_le hy.1
 have ha : a < 2 ^ 64 := by omega
 have hb : b < 2 ^ 64 := by omega
 rw [(bits_nat IntKind.u64 64 (by decide) u64_same a b ha hb).2, (bits_nat IntKind.u64 64 (by decide) u64_same b a hb ha).2, Nat.or_comm]
theorem or_digits (x y : Int) (hx : 0 ≤ x ∧ x < (4294967296 : Nat)) (hy : 0 ≤ y ∧ y < (4294967296 : Nat)) : bits BinOp.or IntKind.u64 x (y * 4294967296) = x + y * 4294967296 := by
 rw [or_turn x (y * 4294967296) (by omega) (by omega), bits_join IntKind.u64 64 (by decide) u64_same 32 (y * 4294967296) x (by omega) (by omega) (by omega) hx.1 (by omega) (by omega)]
 omega
theorem fresh_none (B : Nat) : Fresh B none := fun x h => by cases h
theorem own_fresh {w : World} {base : Nat} {e : TypeId} {size n c : Nat} {a : Option Addr} {xs : List Value} (h : w.ownsRow base e size (.slice a n c) n xs) : Fresh base a := by
 rcases h.2 with ⟨h1, _⟩ | ⟨g, cap, cur, h1, hb, _⟩
 ·injection h1 with e1
  subst e1
  exact fresh_none _
 ·injection h1 with e1
  subst e1
  intro x hx
  injection hx with hx
  subst hx
  exact hb
def RetNF (w : World) (m : Nat) (e : Ending) (w' : World) : Prop :=
 ∃ a c, e = .returned (.slice a (dig 18446744073709551616 m).length c) ∧ NAt w' w'.heap.size a c m ∧ Below w.heap.size w w' ∧ Fresh w.heap.size a
theorem RetNF.ret {w : World} {m : Nat} {e : Ending} {w' : World} (h : RetNF w m e w') : RetN w m e w' := by
 obtain ⟨a, c, h1, h2, h3, _⟩ := h
 exact ⟨a, c, h1, h2, h3⟩
set_option maxHeartbeats 2000000 in
set_option maxRecDepth 100000 in
theorem nwholeX_any (a : Option Addr) (c hi : Nat) (xs : List Int) (w : World) (h : Ints .u32 w hi a xs) (hhi : hi ≤ w.heap.size) (hn : xs.length ≤ 1000000000) :
  Calls Tryz.prog 88 #[.slice a xs.length c] w (RetNF w (valB 4294967296 xs)) := by
 replace h := h.mono hhi
 have hr := Lib.hid (rng32 h)
 obtain ⟨hm, _, hc⟩ := h
 go_enter Tryz.func88, Tryz.ntmps88
 go_wp2
 go_loopw [3, 4] (fun v i wr => ∃ j k : Nat, Hid (j = 2 * k) ∧ j ≤ xs.length + 1 ∧ i = .int .i64 j ∧ wr.ownsRow w.heap.size 72 1 v k ((pairL (xs.take j)).map (Value.int .u64)) ∧ Below w.heap.size w wr) (fun _ i _ => xs.length + 1 - (intOf i).toNat)
 case atStart => exact ⟨0, 0, Lib.hid rfl, Nat.zero_le _, rfl, World.ownsRow_nil _ _ _ _, Below.refl _ _⟩
 case round =>
  obtain ⟨j, k, HJ, hj, rfl, hown, hbel⟩ := hrel
  obtain ⟨wi, rfl⟩ : ∃ wi : World, wi = wr := ⟨_, rfl⟩
  by_cases hlt : j < xs.length
  ·obtain ⟨b, off, rfl, hlb, hcell⟩ := hc j hlt
   have hrx := hr.out.getD (by decide) j
   have hcr : wi.cell? ⟨b, off + j, none⟩ = some (.int .u32 (xs[j]?.getD 0)) := (hbel.cell (p := ⟨b, off + j, none⟩) hlb).trans hcell
   have hk3 := own_len hown
   have hk2 : k ≤ 1000000000 := by have := HJ.out; omega
   have HO := Lib.hid hown
   have HB := Lib.hid hbel
   have hsz := hbel.size
   have ej : RowKit.wrap64 ((j : Int) + 1) = (j : Int) + 1 := IntWalk.wrap64_in _ ⟨by omega, by omega⟩
   by_cases hl2 : j + 1 < xs.length
   ·obtain ⟨b2, off2, e2, hlb2, hcell2⟩ := hc (j + 1) hl2
    cases e2
    have hry := hr.out.getD (by decide) (j + 1)
    have hcr2 : wi.cell? ⟨b, off + (j + 1), none⟩ = some (.int .u32 (xs[j + 1]?.getD 0)) := (hbel.cell (p := ⟨b, off + (j + 1), none⟩) hlb2).trans hcell2
    have hT : pairL (xs.take (j + 2)) = pairL (xs.take j) ++ [xs[j]?.getD 0 + xs[j + 1]?.getD 0 * 4294967296] := by rw [HJ.out]; exact pairL_two xs k (by have := HJ.out; omega)
    have HT := Lib.hid hT
    have hl3 : (j : Int) + 1 < (xs.length : Int) := by omega
    clear hT hc hown hbel hcell hcell2
    generalize xs[j]?.getD 0 = x at *
    generalize xs[j + 1]?.getD 0 = y at *
    have e9 : bits BinOp.or IntKind.u64 x (y * 4294967296) = x + y * 4294967296 := or_digits x y hrx hry
    go_upto_region 8 with fail
    go_wp2_with (at_builtin; (refine wpl_append1b 58 72 .u64 8 (by decide) infoU64n Tryz.underlying58 w.heap.size _ k (pairL (xs.take j)) (x + y * 4294967296) _ _ _ rfl rfl rfl HO.out rfl (by omega) hsz ?_); intro v' w1 hown1 hbel1 _)
    have HO1 := Lib.hid hown1
    have HB1 := Lib.hid (hbel1 _ _ (Nat.le_refl _) HB.out)
    clear hown1 hbel1
    go_roundw
    case rel => exact ⟨j + 2, k + 1, Lib.hid (by have := HJ.out; omega), by omega, by go_num, by rw [HT.out]; exact HO1.out, HB1.out⟩
    case measure => simp [intOf]; omega
   ·have hT : pairL (xs.take (j + 2)) = pairL (xs.take j) ++ [xs[j]?.getD 0] := by rw [HJ.out]; exact pairL_one xs k (by have := HJ.out; omega) (by have := HJ.out; omega)
    have HT := Lib.hid hT
    have hl3 : ¬ (j : Int) + 1 < (xs.length : Int) := by omega
    clear hT hc hown hbel hcell
    generalize xs[j]?.getD 0 = x at *
    go_wp2_with (at_builtin; (refine wpl_append1b 58 72 .u64 8 (by decide) infoU64n Tryz.underlying58 w.heap.size _ k (pairL (xs.take j)) x _ _ _ rfl rfl rfl HO.out rfl (by omega) hsz ?_); intro v' w1 hown1 hbel1 _)
    have HO1 := Lib.hid hown1
    have HB1 := Lib.hid (hbel1 _ _ (Nat.le_refl _) HB.out)
    clear hown1 hbel1
    go_roundw
    case rel => exact ⟨j + 2, k + 1, Lib.hid (by have := HJ.out; omega), by omega, by go_num, by rw [HT.out]; exact HO1.out, HB1.out⟩
    case measure => simp [intOf]; omega
  ·have ht : xs.take j = xs := List.take_of_length_le (by omega)
   rw [ht] at hown
   have hk3 := own_len hown
   skip
   obtain ⟨a1, xsl, he, hI⟩ := own_ints hown (fun x hx => by have := pairL_rng hr.out x hx; exact wf_u64_iff.2 ⟨by omega, by omega⟩)
   subst he
   have hkl : k = (pairL xs).length := by have := own_len hown; simpa using this.symm
   skip
   rw [hkl] at hown
   have hcap := own_cap1 hown
   have hfr := Lib.hid (own_fresh hown)
   have HI := Lib.hid hI
   have HB := Lib.hid hbel
   have HV := Lib.hid (pairL_val hr.out)
   have hpl := pairL_len xs
   have HC := Lib.hid (ntrim_any a1 xsl wi.heap.size (pairL xs) wi hI (by omega) (by omega))
   clear hown hI hbel hc hkl ht hk3
   go_wp2_with (go_at_call 65; refine HC.out.mono ?_; rintro e w2 ⟨rfl, rfl⟩)
   go_ret
   refine ⟨a1, xsl, by rw [← HV.out]; rfl, ?_, HB.out, hfr.out⟩
   rw [← HV.out]
   exact nat_of_ints HI.out ⟨hcap.1, hcap.2⟩
theorem halves_any (a : Option Addr) (c m : Nat) (w : World) (h : NAt w w.heap.size a c m) (hn : (dig 18446744073709551616 m).length ≤ 1000000000) :
  Calls Tryz.prog 87 #[.slice a (dig 18446744073709551616 m).length c] w (RetH w m) := by
 have h2 := halvesX_any a c _ w h.li hn
 rwa [val_dig (by decide)] at h2
theorem nwholeF_any (a : Option Addr) (c m : Nat) (w : World) (h : HAt w w.heap.size a c m) (hn : (dig 4294967296 m).length ≤ 1000000000) :
  Calls Tryz.prog 88 #[.slice a (dig 4294967296 m).length c] w (RetNF w m) := by
 have h2 := nwholeX_any a c _ _ w h.li (Nat.le_refl _) hn
 rwa [val_dig (by decide)] at h2
theorem nwhole_any (a : Option Addr) (c m : Nat) (w : World) (h : HAt w w.heap.size a c m) (hn : (dig 4294967296 m).length ≤ 1000000000) :
  Calls Tryz.prog 88 #[.slice a (dig 4294967296 m).length c] w (RetN w m) := (nwholeF_any a c m w h hn).mono fun _ _ => RetNF.ret
theorem nof_any (x : Int) (hx : 0 ≤ x ∧ x < 18446744073709551616) (w : World) : Calls Tryz.prog 30 #[.int .u64 x] w (RetN w x.toNat) := by
 have hI : Ints .u64 (w.alloc (.cells #[.int .u64 x] 72)) (w.alloc (.cells #[.int .u64 x] 72)).heap.size (some ⟨w.heap.size, 0, none⟩) [x] :=
  ⟨by simp, by simp; exact wf_u64_iff.2 ⟨by omega, by omega⟩, fun i hi => by
   match i, hi with
   | 0, _ => exact ⟨w.heap.size, 0, rfl, by simp, by simp [go_sem]⟩⟩
 have HI := Lib.hid hI
 have HC := Lib.hid (ntrim_any _ 1 _ [x] _ hI (by simp) (by decide))
 have hv : valB 18446744073709551616 [x] = x.toNat := by simp [valB]
 rw [hv] at HC
 clear hI
 go_enter Tryz.func30, Tryz.ntmps30
 go_wp2_with (go_at_call 65; refine HC.out.mono ?_; rintro e w2 ⟨rfl, rfl⟩)
 go_ret
 refine ⟨_, 1, rfl, ?_, (Below.refl _ _).alloc (Nat.le_refl _) _⟩
 rw [← hv]
 exact nat_of_ints HI.out (by simp)
theorem valB_take_succ' (B : Nat) (xs : List Int) (k : Nat) : valB B (xs.take (k + 1)) = valB B (xs.take k) + B ^ k * (xs[k]?.getD 0).toNat := by
 by_cases h : k < xs.length
 ·exact valB_take_succ B xs k h
 ·rw [List.take_of_length_le (by omega), List.take_of_length_le (by omega), List.getElem?_eq_none (by omega)]
  simp
theorem valB_snoc (B : Nat) (xs : List Int) (d : Int) (k : Nat) (hl : xs.length = k) : valB B (xs ++ [d]) = valB B xs + B ^ k * d.toNat := by
 rw [valB_append, hl]
 simp [valB]
theorem plus_step {B k U V dx dy : Nat} {L : List Int} {C : Nat} (h : valB B L + B ^ k * C = U + V) (hl : L.length = k) : valB B (L ++ [(((C + dx + dy) % B : Nat) : Int)]) + B ^ (k + 1) * ((C + dx + dy) / B) = (U + B ^ k * dx) + (V + B ^ k * dy) := by
 rw [valB_snoc B L _ k hl, Int.toNat_natCast, Nat.pow_succ, Nat.mul_assoc, Nat.add_assoc, ← Nat.mul_add, Nat.mod_add_div, Nat.mul_add, Nat.mul_add]
 omega
theorem dig32_len (m : Nat) : (dig 4294967296 m).length ≤ 2 * (dig 18446744073709551616 m).length := by
 refine dig_len_le (by decide) _ m ?_
 have h := lt_dig_len (B := 18446744073709551616) (by decide) m
 rw [Nat.pow_mul]
 exact h
theorem own_len_k {k : IntKind} {w : World} {base : Nat} {e : TypeId} {v : Value} {n : Nat} {xs : List Int} (h : w.ownsRow base e 1 v n (xs.map (Value.int k))) : xs.length = n := by
 have := h.1
 simpa using this
set_option maxHeartbeats 8000000 in
set_option maxRecDepth 100000 in
theorem nplus_any (a b : Option Addr) (c d m n : Nat) (w : World) (h : NAt w w.heap.size a c m) (h' : NAt w w.heap.size b d n) (hm : (dig 18446744073709551616 m).length ≤ 1000000) (hn : (dig 18446744073709551616 n).length ≤ 1000000) :
  Calls Tryz.prog 56 #[.slice a (dig 18446744073709551616 m).length c, .slice b (dig 18446744073709551616 n).length d] w (RetN w (m + n)) := by
 have h1 := fun w' (hb : Below w.heap.size w w') => Lib.hid (halves_any a c m w' (h.next hb) (by omega))
 have h2 := fun w' (hb : Below w.heap.size w w') => Lib.hid (halves_any b d n w' (h'.next hb) (by omega))
 clear h h'
 have k1 := dig32_len m
 have k2 := dig32_len n
 go_enter Tryz.func56, Tryz.ntmps56
 go_upto_region 3 with (first | (go_at_call_of 87 a; refine (h1 w (Below.refl _ _)).out.mono ?_; rintro e w1 ⟨ax, cx, rfl, hX, hb1⟩; have HX1 := Lib.hid hX; have HB1 := Lib.hid hb1; clear hX hb1) | (go_at_call_of 87 b; refine (h2 _ HB1.out).out.mono ?_; rintro e w2 ⟨ay, cy, rfl, hY, hb2⟩; have HY2 := Lib.hid hY; have HB2 := Lib.hid hb2; clear hY hb2))
 have HX2 := Lib.hid (HX1.out.next HB2.out)
 have HBW := Lib.hid (HB1.out.trans (HB2.out.mono HB1.out.size))
 clear HX1 HB1 HB2
 obtain ⟨X, hXe⟩ : ∃ X, dig 4294967296 m = X := ⟨_, rfl⟩
 obtain ⟨Y, hYe⟩ : ∃ Y, dig 4294967296 n = Y := ⟨_, rfl⟩
 have rX : Rng 4294967296 X := by rw [← hXe]; exact dig_rng (by decide) _
 have rY : Rng 4294967296 Y := by rw [← hYe]; exact dig_rng (by decide) _
 have vX : valB 4294967296 X = m := by rw [← hXe]; exact val_dig (by decide) _
 have vY : valB 4294967296 Y = n := by rw [← hYe]; exact val_dig (by decide) _
 have HcX := Lib.hid HX2.out.li
 have HcY := Lib.hid HY2.out.li
 rw [hXe] at HcX
 rw [hYe] at HcY
 rw [hXe] at k1 ⊢
 rw [hYe] at k2 ⊢
 have RX := Lib.hid rX
 have RY := Lib.hid rY
 have VX := Lib.hid vX
 have VY := Lib.hid vY
 clear hXe hYe rX rY vX vY HX2 HY2 h1 h2
 have hlX : X.length ≤ 2000000 := by omega
 have hlY : Y.length ≤ 2000000 := by omega
 clear k1 k2
 go_wp2_with fail
 go_loopw [7, 8, 9] (fun v c i wr => ∃ (k C : Nat) (L : List Int), k ≤ 2000000 ∧ (k ≤ X.length ∨ k ≤ Y.length) ∧ c = .int .u64 C ∧ i = .int .i64 k ∧ C ≤ 1 ∧ Hid (Rng 4294967296 L) ∧ Hid (valB 4294967296 L + 4294967296 ^ k * C = valB 4294967296 (X.take k) + valB 4294967296 (Y.take k)) ∧ wr.ownsRow w2.heap.size 138 1 v k (L.map (Value.int .u32)) ∧ Below w2.heap.size w2 wr) (fun _ _ i _ => 2000001 - (intOf i).toNat)
 case atStart => exact ⟨0, 0, [], by omega, .inl (Nat.zero_le _), rfl, rfl, Nat.zero_le _, Lib.hid (fun x hx => by cases hx), Lib.hid rfl, World.ownsRow_nil _ _ _ _, Below.refl _ _⟩
 case round =>
  obtain ⟨k, C, L, hk, hkm, rfl, rfl, hC, HR, HV, hown, hbel⟩ := hrel
  obtain ⟨wi, rfl⟩ : ∃ wi : World, wi = wr := ⟨_, rfl⟩
  have HO := Lib.hid hown
  have HB := Lib.hid hbel
  have hsz := hbel.size
  have HLL := Lib.hid (own_len_k hown)
  clear hown hbel
  have dX := RX.out.getD (by decide) k
  have dY := RY.out.getD (by decide) k
  obtain ⟨dx, edx⟩ : ∃ d : Nat, X[k]?.getD 0 = (d : Int) := ⟨(X[k]?.getD 0).toNat, by omega⟩
  obtain ⟨dy, edy⟩ : ∃ d : Nat, Y[k]?.getD 0 = (d : Int) := ⟨(Y[k]?.getD 0).toNat, by omega⟩
  have hst := plus_step (dx := dx) (dy := dy) HV.out HLL.out
  have t1 := valB_take_succ' 4294967296 X k
  have t2 := valB_take_succ' 4294967296 Y k
  rw [edx, Int.toNat_natCast] at t1
  rw [edy, Int.toNat_natCast] at t2
  rw [← t1, ← t2] at hst
  obtain ⟨r, hr⟩ : ∃ r : Nat, (C + dx + dy) % 4294967296 = r := ⟨_, rfl⟩
  obtain ⟨q, hq⟩ : ∃ q : Nat, (C + dx + dy) / 4294967296 = q := ⟨_, rfl⟩
  rw [hr, hq] at hst
  have hR2 : Rng 4294967296 (L ++ [(r : Int)]) := HR.out.append (by intro x hx; simp only [List.mem_singleton] at hx; subst hx; omega)
  rw [edx] at dX
  rw [edy] at dY
  have HV2 := Lib.hid hst
  have HR2 := Lib.hid hR2
  clear hst t1 t2 hR2
  have hC2 : q ≤ 1 := by omega
  have HRR := Lib.hid hr
  have HQQ := Lib.hid hq
  clear hr hq
  by_cases hx : k < X.length
  ·by_cases hy : k < Y.length
   ·skip
    obtain ⟨b1, o1, ex, hlb, cX⟩ := HcX.out.cell k hx
    rw [edx] at cX
    replace cX := (HB.out.cell (p := ⟨b1, o1 + k, none⟩) hlb).trans cX
    subst ex
    have ix : (k : Int) < (X.length : Int) := by omega
    obtain ⟨b2, o2, ey, hlb2, cY⟩ := HcY.out.cell k hy
    rw [edy] at cY
    replace cY := (HB.out.cell (p := ⟨b2, o2 + k, none⟩) hlb2).trans cY
    subst ey
    have iy : (k : Int) < (Y.length : Int) := by omega
    obtain ⟨s1, hs1⟩ : ∃ s1 : Nat, s1 = C + dx := ⟨_, rfl⟩
    have eS1 : ∀ [Inhabited Unit], (C : Int) + (dx : Int) = (s1 : Int) := by intro _; omega
    have b1 : s1 ≤ 4294967296 := by omega
    obtain ⟨s2, hs2⟩ : ∃ s2 : Nat, s2 = s1 + dy := ⟨_, rfl⟩
    have eS2 : ∀ [Inhabited Unit], (s1 : Int) + (dy : Int) = (s2 : Int) := by intro _; omega
    have b2 : s2 ≤ 8589934592 := by omega
    have hr := HRR.out
    have hq := HQQ.out
    have eM : ∀ [Inhabited Unit], IntKind.u32.wrap (s2 : Int) = (r : Int) := by intro _; rw [IntKind.wrap_u32]; omega
    have eD : ∀ [Inhabited Unit], (s2 : Int) / 4294967296 = (q : Int) := by intro _; omega
    have g0 : (0 : Int) ≤ (s2 : Int) := by omega
    clear hr hq edx edy hx hy hs1 hs2
    have i0 : (0 : Int) ≤ (k : Int) := by omega
    as_aux_lemma =>
     go_upto_region 12 with fail
     go_wp2_with (at_builtin; (refine wpl_append1b 136 138 .u32 4 (by decide) infoU32n Tryz.underlying136 w2.heap.size _ k L (r : Int) _ _ _ rfl rfl rfl HO.out rfl (by omega) hsz ?_); intro v' w3 hown1 hbel1 _; have HO1 := Lib.hid hown1; have HB1 := Lib.hid (hbel1 _ _ (Nat.le_refl _) HB.out); clear hown1 hbel1)
     go_wp2
     go_roundw
     case rel => exact ⟨k + 1, q, _, by omega, by omega, rfl, by go_num, hC2, HR2, HV2, HO1.out, HB1.out⟩
     case measure => simp [intOf]; omega
   ·skip
    obtain ⟨b1, o1, ex, hlb, cX⟩ := HcX.out.cell k hx
    rw [edx] at cX
    replace cX := (HB.out.cell (p := ⟨b1, o1 + k, none⟩) hlb).trans cX
    subst ex
    have ix : (k : Int) < (X.length : Int) := by omega
    have iy : ¬ (k : Int) < (Y.length : Int) := by omega
    obtain rfl : dy = 0 := by rw [List.getElem?_eq_none (by omega)] at edy; simp at edy; omega
    obtain ⟨s1, hs1⟩ : ∃ s1 : Nat, s1 = C + dx := ⟨_, rfl⟩
    have eS1 : ∀ [Inhabited Unit], (C : Int) + (dx : Int) = (s1 : Int) := by intro _; omega
    have b1 : s1 ≤ 4294967296 := by omega
    have hr := HRR.out
    have hq := HQQ.out
    have eM : ∀ [Inhabited Unit], IntKind.u32.wrap (s1 : Int) = (r : Int) := by intro _; rw [IntKind.wrap_u32]; omega
    have eD : ∀ [Inhabited Unit], (s1 : Int) / 4294967296 = (q : Int) := by intro _; omega
    have g0 : (0 : Int) ≤ (s1 : Int) := by omega
    clear hr hq edx edy hx hy hs1
    have i0 : (0 : Int) ≤ (k : Int) := by omega
    as_aux_lemma =>
     go_upto_region 12 with fail
     go_wp2_with (at_builtin; (refine wpl_append1b 136 138 .u32 4 (by decide) infoU32n Tryz.underlying136 w2.heap.size _ k L (r : Int) _ _ _ rfl rfl rfl HO.out rfl (by omega) hsz ?_); intro v' w3 hown1 hbel1 _; have HO1 := Lib.hid hown1; have HB1 := Lib.hid (hbel1 _ _ (Nat.le_refl _) HB.out); clear hown1 hbel1)
     go_wp2
     go_roundw
     case rel => exact ⟨k + 1, q, _, by omega, by omega, rfl, by go_num, hC2, HR2, HV2, HO1.out, HB1.out⟩
     case measure => simp [intOf]; omega
  ·by_cases hy : k < Y.length
   ·skip
    have ix : ¬ (k : Int) < (X.length : Int) := by omega
    obtain rfl : dx = 0 := by rw [List.getElem?_eq_none (by omega)] at edx; simp at edx; omega
    obtain ⟨b2, o2, ey, hlb2, cY⟩ := HcY.out.cell k hy
    rw [edy] at cY
    replace cY := (HB.out.cell (p := ⟨b2, o2 + k, none⟩) hlb2).trans cY
    subst ey
    have iy : (k : Int) < (Y.length : Int) := by omega
    obtain ⟨s2, hs2⟩ : ∃ s2 : Nat, s2 = C + dy := ⟨_, rfl⟩
    have eS2 : ∀ [Inhabited Unit], (C : Int) + (dy : Int) = (s2 : Int) := by intro _; omega
    have b2 : s2 ≤ 8589934592 := by omega
    have hr := HRR.out
    have hq := HQQ.out
    have eM : ∀ [Inhabited Unit], IntKind.u32.wrap (s2 : Int) = (r : Int) := by intro _; rw [IntKind.wrap_u32]; omega
    have eD : ∀ [Inhabited Unit], (s2 : Int) / 4294967296 = (q : Int) := by intro _; omega
    have g0 : (0 : Int) ≤ (s2 : Int) := by omega
    clear hr hq edx edy hx hy hs2
    have i0 : (0 : Int) ≤ (k : Int) := by omega
    as_aux_lemma =>
     go_upto_region 12 with fail
     go_wp2_with (at_builtin; (refine wpl_append1b 136 138 .u32 4 (by decide) infoU32n Tryz.underlying136 w2.heap.size _ k L (r : Int) _ _ _ rfl rfl rfl HO.out rfl (by omega) hsz ?_); intro v' w3 hown1 hbel1 _; have HO1 := Lib.hid hown1; have HB1 := Lib.hid (hbel1 _ _ (Nat.le_refl _) HB.out); clear hown1 hbel1)
     go_wp2
     go_roundw
     case rel => exact ⟨k + 1, q, _, by omega, by omega, rfl, by go_num, hC2, HR2, HV2, HO1.out, HB1.out⟩
     case measure => simp [intOf]; omega
   ·have ix : ¬ (k : Int) < (X.length : Int) := by omega
    have iy : ¬ (k : Int) < (Y.length : Int) := by omega
    have hv := HV.out
    rw [List.take_of_length_le (by omega), List.take_of_length_le (by omega), VX.out, VY.out] at hv
    have hv2 : valB 4294967296 (L ++ [(C : Int)]) = m + n := by rw [valB_snoc _ _ _ k HLL.out, Int.toNat_natCast]; exact hv
    have HV3 := Lib.hid hv2
    have HR3 := Lib.hid (show Rng 4294967296 (L ++ [(C : Int)]) from HR.out.append (by intro x hx; simp only [List.mem_singleton] at hx; subst hx; omega))
    have eM : IntKind.u32.wrap (C : Int) = (C : Int) := by rw [IntKind.wrap_u32]; omega
    have hll : (L ++ [(C : Int)]).length = k + 1 := by rw [List.length_append, HLL.out]; rfl
    have HLN := Lib.hid hll
    clear hv hv2 HRR HQQ HV2 HR2 edx edy hC2 hll hx hy
    go_wp2_with (first | (at_builtin; (refine wpl_append1b 136 138 .u32 4 (by decide) infoU32n Tryz.underlying136 w2.heap.size _ k L (C : Int) _ _ _ rfl rfl rfl HO.out rfl (by omega) hsz ?_); intro v' w3 hown1 hbel1 _; have HB1 := Lib.hid (hbel1 _ _ (Nat.le_refl _) HB.out); obtain ⟨a3, c3, rfl, _⟩ := own_shape hown1; obtain ⟨a4, c4, he, hI⟩ := own_ints hown1 (fun x hx => by have := HR3.out x hx; exact wf_u32_iff.2 ⟨by omega, by omega⟩); injection he with e1 e2 e3; clear e2; subst e1; subst e3; have HCP := Lib.hid (own_cap1 hown1); have HCQ : Hid ((L ++ [(C : Int)]).length ≤ c3 ∧ c3 ≤ 9223372036854775807) := Lib.hid (by rw [HLN.out]; exact HCP.out); have HI := Lib.hid hI; have HC := Lib.hid (cut_any a3 c3 w3.heap.size _ w3 hI HCQ.out.1 HCQ.out.2); rw [HV3.out, HLN.out] at HC; have HD := Lib.hid (dig_of_ints HI.out HCQ.out); rw [HV3.out] at HD; have HW := Lib.hid (nwhole_any a3 c3 (m + n) w3 HD.out (by have := HD.out.c1; have e := dig_is_take (B := 4294967296) (by decide) HR3.out; rw [HV3.out] at e; have e2 := congrArg List.length e; rw [List.length_take, HLN.out] at e2; omega)); clear hown1 hbel1 hI HD HI) | (go_at_call 89; refine HC.out.mono ?_; rintro e w4 ⟨rfl, rfl⟩) | (go_at_call 88; refine HW.out.mono ?_; rintro e w5 ⟨a5, c5, rfl, hN, hb5⟩; have HN := Lib.hid hN; have HB5 := Lib.hid hb5; clear hN hb5))
    go_ret
    exact ⟨a5, c5, rfl, HN.out, (HBW.out.trans (HB1.out.mono HBW.out.size)).trans (HB5.out.mono (Nat.le_trans HBW.out.size HB1.out.size))⟩
theorem less_step {B k U V dx dy b b' r : Nat} {L : List Int} (h : valB B L + V = U + B ^ k * b) (hl : L.length = k) (he : dx + b' * B = r + dy + b) : valB B (L ++ [(r : Int)]) + (V + B ^ k * dy) = (U + B ^ k * dx) + B ^ (k + 1) * b' := by
 have e : B ^ k * (dx + b' * B) = B ^ k * (r + dy + b) := by rw [he]
 rw [Nat.mul_add, Nat.mul_add, Nat.mul_add, Nat.mul_comm b' B, ← Nat.mul_assoc] at e
 rw [valB_snoc B L _ k hl, Int.toNat_natCast, Nat.pow_succ]
 omega
theorem less_end {B k m n b : Nat} {L : List Int} (hB : 2 ≤ B) (hr : Rng B L) (hl : L.length = k) (h : valB B L + n = m + B ^ k * b) (hmn : n ≤ m) : valB B L = m - n := by
 have h1 := valB_lt hB hr
 rw [hl] at h1
 by_cases hb : b = 0
 ·subst hb
  omega
 ·have : B ^ k * 1 ≤ B ^ k * b := Nat.mul_le_mul (Nat.le_refl _) (by omega)
  omega
set_option maxHeartbeats 8000000 in
set_option maxRecDepth 100000 in
theorem nlessF_any (a b : Option Addr) (c d m n : Nat) (w : World) (h : NAt w w.heap.size a c m) (h' : NAt w w.heap.size b d n) (hm : (dig 18446744073709551616 m).length ≤ 1000000) (hn : (dig 18446744073709551616 n).length ≤ 1000000) (hnm : n ≤ m) :
  Calls Tryz.prog 58 #[.slice a (dig 18446744073709551616 m).length c, .slice b (dig 18446744073709551616 n).length d] w (RetNF w (m - n)) := by
 have h1 := fun w' (hb : Below w.heap.size w w') => Lib.hid (halves_any a c m w' (h.next hb) (by omega))
 have h2 := fun w' (hb : Below w.heap.size w w') => Lib.hid (halves_any b d n w' (h'.next hb) (by omega))
 clear h h'
 have k1 := dig32_len m
 have k2 := dig32_len n
 go_enter Tryz.func58, Tryz.ntmps58
 go_upto_region 3 with (first | (go_at_call_of 87 a; refine (h1 w (Below.refl _ _)).out.mono ?_; rintro e w1 ⟨ax, cx, rfl, hX, hb1⟩; have HX1 := Lib.hid hX; have HB1 := Lib.hid hb1; clear hX hb1) | (go_at_call_of 87 b; refine (h2 _ HB1.out).out.mono ?_; rintro e w2 ⟨ay, cy, rfl, hY, hb2⟩; have HY2 := Lib.hid hY; have HB2 := Lib.hid hb2; clear hY hb2))
 have HX2 := Lib.hid (HX1.out.next HB2.out)
 have HBW := Lib.hid (HB1.out.trans (HB2.out.mono HB1.out.size))
 clear HX1 HB1 HB2
 obtain ⟨X, hXe⟩ : ∃ X, dig 4294967296 m = X := ⟨_, rfl⟩
 obtain ⟨Y, hYe⟩ : ∃ Y, dig 4294967296 n = Y := ⟨_, rfl⟩
 have rX : Rng 4294967296 X := by rw [← hXe]; exact dig_rng (by decide) _
 have rY : Rng 4294967296 Y := by rw [← hYe]; exact dig_rng (by decide) _
 have vX : valB 4294967296 X = m := by rw [← hXe]; exact val_dig (by decide) _
 have vY : valB 4294967296 Y = n := by rw [← hYe]; exact val_dig (by decide) _
 have HcX := Lib.hid HX2.out.li
 have HcY := Lib.hid HY2.out.li
 rw [hXe] at HcX
 rw [hYe] at HcY
 rw [hXe] at k1 ⊢
 rw [hYe] at k2 ⊢
 have RX := Lib.hid rX
 have RY := Lib.hid rY
 have VX := Lib.hid vX
 have VY := Lib.hid vY
 have HXE := Lib.hid hXe
 have HYE := Lib.hid hYe
 clear hXe hYe rX rY vX vY HX2 HY2 h1 h2
 have hlX : X.length ≤ 2000000 := by omega
 have hlY : Y.length ≤ 2000000 := by omega
 clear k1 k2
 have hYX : Y.length ≤ X.length := by have h := dig_len_mono (B := 4294967296) (by decide) hnm; rw [HXE.out, HYE.out] at h; exact h
 go_wp2_with fail
 go_loopw [7, 8, 9] (fun v c i wr => ∃ (k b : Nat) (ci : Int) (L : List Int), k ≤ X.length ∧ c = .int .i64 ci ∧ ci = -(b : Int) ∧ i = .int .i64 k ∧ b ≤ 1 ∧ Hid (Rng 4294967296 L) ∧ Hid (valB 4294967296 L + valB 4294967296 (Y.take k) = valB 4294967296 (X.take k) + 4294967296 ^ k * b) ∧ wr.ownsRow w2.heap.size 138 1 v k (L.map (Value.int .u32)) ∧ Below w2.heap.size w2 wr) (fun _ _ i _ => X.length - (intOf i).toNat)
 case atStart => exact ⟨0, 0, 0, [], Nat.zero_le _, rfl, rfl, rfl, Nat.zero_le _, Lib.hid (fun x hx => by cases hx), Lib.hid rfl, World.ownsRow_nil _ _ _ _, Below.refl _ _⟩
 case round =>
  obtain ⟨k, b0, C, L, hk, rfl, hCb, rfl, hC, HR, HV, hown, hbel⟩ := hrel
  obtain ⟨wi, rfl⟩ : ∃ wi : World, wi = wr := ⟨_, rfl⟩
  have HO := Lib.hid hown
  have HB := Lib.hid hbel
  have hsz := hbel.size
  have HLL := Lib.hid (own_len_k hown)
  clear hown hbel
  by_cases hx : k < X.length
  ·skip
   have dX := RX.out.getD (by decide) k
   have dY := RY.out.getD (by decide) k
   obtain ⟨dx, edx⟩ : ∃ d : Nat, X[k]?.getD 0 = (d : Int) := ⟨(X[k]?.getD 0).toNat, by omega⟩
   obtain ⟨dy, edy⟩ : ∃ d : Nat, Y[k]?.getD 0 = (d : Int) := ⟨(Y[k]?.getD 0).toNat, by omega⟩
   rw [edx] at dX
   rw [edy] at dY
   obtain ⟨r, hr⟩ : ∃ r : Nat, (C + dx - dy) % 4294967296 = (r : Int) := ⟨((C + dx - dy) % 4294967296).toNat, by omega⟩
   obtain ⟨b1, hb1⟩ : ∃ b1 : Nat, (C + dx - dy) / 4294967296 = -(b1 : Int) := ⟨(-((C + dx - dy) / 4294967296)).toNat, by omega⟩
   have hst := less_step (dx := dx) (dy := dy) (r := r) (b' := b1) HV.out HLL.out (by omega)
   have t1 := valB_take_succ' 4294967296 X k
   have t2 := valB_take_succ' 4294967296 Y k
   rw [edx, Int.toNat_natCast] at t1
   rw [edy, Int.toNat_natCast] at t2
   rw [← t1, ← t2] at hst
   have hR2 : Rng 4294967296 (L ++ [(r : Int)]) := HR.out.append (by intro x hx; simp only [List.mem_singleton] at hx; subst hx; omega)
   have hB2 : b1 ≤ 1 := by omega
   have HV2 := Lib.hid hst
   have HR2 := Lib.hid hR2
   clear hst t1 t2 hR2
   have HRR := Lib.hid hr
   have HQQ := Lib.hid hb1
   have HCB := Lib.hid hCb
   have hC0 : -1 ≤ C ∧ C ≤ 0 := by omega
   clear hr hb1 hCb
   obtain ⟨bX, oX, ex, hlb, cX⟩ := HcX.out.cell k hx
   rw [edx] at cX
   replace cX := (HB.out.cell (p := ⟨bX, oX + k, none⟩) hlb).trans cX
   subst ex
   have ix : (k : Int) < (X.length : Int) := by omega
   have i0 : (0 : Int) ≤ (k : Int) := by omega
   obtain ⟨s1, hs1, eS1⟩ : ∃ s1 : Int, Hid (s1 = C + dx) ∧ ∀ [Inhabited Unit], C + (dx : Int) = s1 := ⟨_, Lib.hid rfl, fun {_} => rfl⟩
   have z1 : -1 ≤ s1 ∧ s1 ≤ 4294967295 := by have := hs1.out; omega
   by_cases hy : k < Y.length
   ·skip
    obtain ⟨bY, oY, ey, hlb2, cY⟩ := HcY.out.cell k hy
    rw [edy] at cY
    replace cY := (HB.out.cell (p := ⟨bY, oY + k, none⟩) hlb2).trans cY
    subst ey
    have iy : (k : Int) < (Y.length : Int) := by omega
    obtain ⟨s2, hs2, eS2⟩ : ∃ s2 : Int, Hid (s2 = s1 - dy) ∧ ∀ [Inhabited Unit], s1 - (dy : Int) = s2 := ⟨_, Lib.hid rfl, fun {_} => rfl⟩
    have z2 : -4294967296 ≤ s2 ∧ s2 ≤ 4294967295 := by have := hs2.out; omega
    have hs := hs2.out
    have hsx := hs1.out
    have hr := HRR.out
    have hq := HQQ.out
    obtain ⟨su, hsu, eU⟩ : ∃ su : Int, Hid (su = s2 % 18446744073709551616) ∧ ∀ [Inhabited Unit], IntKind.u64.wrap s2 = su := ⟨_, Lib.hid rfl, fun {_} => by simp [IntKind.wrap, IntKind.bits, IntKind.signed]⟩
    have zu : 0 ≤ su ∧ su < 18446744073709551616 := by have := hsu.out; omega
    have eM : ∀ [Inhabited Unit], IntKind.u32.wrap su = (r : Int) := by intro _; rw [IntKind.wrap_u32]; have := hsu.out; omega
    have eD : ∀ [Inhabited Unit], s2 / 4294967296 = -(b1 : Int) := by intro _; omega
    have eF : ∀ [Inhabited Unit], s2.fdiv 4294967296 = -(b1 : Int) := by intro _; rw [Int.fdiv_eq_ediv_of_nonneg _ (by decide)]; omega
    have eF2 : ∀ [Inhabited Unit], s2.fdiv (2 ^ min (Int.toNat 32) IntKind.i64.bits) = -(b1 : Int) := by intro _; rw [show (2 : Int) ^ min (Int.toNat 32) IntKind.i64.bits = 4294967296 from rfl, Int.fdiv_eq_ediv_of_nonneg _ (by decide)]; omega
    clear hr hq hsx edx edy hx hy hs
    as_aux_lemma =>
     go_upto_region 11 with fail
     go_wp2_with (at_builtin; (refine wpl_append1b 136 138 .u32 4 (by decide) infoU32n Tryz.underlying136 w2.heap.size _ k L (r : Int) _ _ _ rfl rfl rfl HO.out rfl (by omega) hsz ?_); intro v' w3 hown1 hbel1 _; have HO1 := Lib.hid hown1; have HB1 := Lib.hid (hbel1 _ _ (Nat.le_refl _) HB.out); clear hown1 hbel1)
     go_wp2
     go_roundw
     case rel => exact ⟨k + 1, b1, _, _, by omega, rfl, by omega, by go_num, hB2, HR2, HV2, HO1.out, HB1.out⟩
     case measure => simp [intOf]; omega
   ·skip
    have iy : ¬ (k : Int) < (Y.length : Int) := by omega
    obtain rfl : dy = 0 := by rw [List.getElem?_eq_none (by omega)] at edy; simp at edy; omega
    have hsx := hs1.out
    have hr := HRR.out
    have hq := HQQ.out
    obtain ⟨su, hsu, eU⟩ : ∃ su : Int, Hid (su = s1 % 18446744073709551616) ∧ ∀ [Inhabited Unit], IntKind.u64.wrap s1 = su := ⟨_, Lib.hid rfl, fun {_} => by simp [IntKind.wrap, IntKind.bits, IntKind.signed]⟩
    have zu : 0 ≤ su ∧ su < 18446744073709551616 := by have := hsu.out; omega
    have eM : ∀ [Inhabited Unit], IntKind.u32.wrap su = (r : Int) := by intro _; rw [IntKind.wrap_u32]; have := hsu.out; omega
    have eD : ∀ [Inhabited Unit], s1 / 4294967296 = -(b1 : Int) := by intro _; omega
    have eF : ∀ [Inhabited Unit], s1.fdiv 4294967296 = -(b1 : Int) := by intro _; rw [Int.fdiv_eq_ediv_of_nonneg _ (by decide)]; omega
    have eF2 : ∀ [Inhabited Unit], s1.fdiv (2 ^ min (Int.toNat 32) IntKind.i64.bits) = -(b1 : Int) := by intro _; rw [show (2 : Int) ^ min (Int.toNat 32) IntKind.i64.bits = 4294967296 from rfl, Int.fdiv_eq_ediv_of_nonneg _ (by decide)]; omega
    clear hr hq hsx edx edy hx hy
    as_aux_lemma =>
     go_upto_region 11 with fail
     go_wp2_with (at_builtin; (refine wpl_append1b 136 138 .u32 4 (by decide) infoU32n Tryz.underlying136 w2.heap.size _ k L (r : Int) _ _ _ rfl rfl rfl HO.out rfl (by omega) hsz ?_); intro v' w3 hown1 hbel1 _; have HO1 := Lib.hid hown1; have HB1 := Lib.hid (hbel1 _ _ (Nat.le_refl _) HB.out); clear hown1 hbel1)
     go_wp2
     go_roundw
     case rel => exact ⟨k + 1, b1, _, _, by omega, rfl, by omega, by go_num, hB2, HR2, HV2, HO1.out, HB1.out⟩
     case measure => simp [intOf]; omega
  ·have ix : ¬ (k : Int) < (X.length : Int) := by omega
   have hv := HV.out
   rw [List.take_of_length_le (by omega), List.take_of_length_le (by omega), VX.out, VY.out] at hv
   have hv2 := less_end (by decide) HR.out HLL.out hv hnm
   have HV3 := Lib.hid hv2
   have HR3 := HR
   have hll := HLL.out
   have HLN := HLL
   clear hv hv2 hx hll hnm
   (have hown1 := HO.out; obtain ⟨a3, c3, rfl, _⟩ := own_shape hown1; obtain ⟨a4, c4, he, hI⟩ := own_ints hown1 (fun x hx => by have := HR3.out x hx; exact wf_u32_iff.2 ⟨by omega, by omega⟩); injection he with e1 e2 e3; clear e2; subst e1; subst e3; have HCP := Lib.hid (own_cap1 hown1); have HCQ : Hid (L.length ≤ c3 ∧ c3 ≤ 9223372036854775807) := Lib.hid (by rw [HLN.out]; exact HCP.out); have HI := Lib.hid hI; have HC := Lib.hid (cut_any a3 c3 wi.heap.size _ wi hI HCQ.out.1 HCQ.out.2); rw [HV3.out, HLN.out] at HC; have HD := Lib.hid (dig_of_ints HI.out HCQ.out); rw [HV3.out] at HD; have HW := Lib.hid (nwholeF_any a3 c3 (m - n) wi HD.out (by have e := dig_is_take (B := 4294967296) (by decide) HR3.out; rw [HV3.out] at e; have e2 := congrArg List.length e; rw [List.length_take, HLN.out] at e2; omega)); clear hown1 hI HD HI)
   go_wp2_with (first | (go_at_call 89; refine HC.out.mono ?_; rintro e w4 ⟨rfl, rfl⟩) | (go_at_call 88; refine HW.out.mono ?_; rintro e w5 ⟨a5, c5, rfl, hN, hb5, hf5⟩; have HN := Lib.hid hN; have HF5 := Lib.hid hf5; clear hf5; have HB5 := Lib.hid hb5; clear hN hb5))
   go_ret
   exact ⟨a5, c5, rfl, HN.out, (HBW.out.trans (HB.out.mono HBW.out.size)).trans (HB5.out.mono (Nat.le_trans HBW.out.size HB.out.size)), HF5.out.mono (Nat.le_trans HBW.out.size HB.out.size)⟩
theorem nless_any (a b : Option Addr) (c d m n : Nat) (w : World) (h : NAt w w.heap.size a c m) (h' : NAt w w.heap.size b d n) (hm : (dig 18446744073709551616 m).length ≤ 1000000) (hn : (dig 18446744073709551616 n).length ≤ 1000000) (hnm : n ≤ m) :
  Calls Tryz.prog 58 #[.slice a (dig 18446744073709551616 m).length c, .slice b (dig 18446744073709551616 n).length d] w (RetN w (m - n)) := (nlessF_any a b c d m n w h h' hm hn hnm).mono fun _ _ => RetNF.ret
theorem valB_split (B : Nat) (xs : List Int) (k : Nat) (h : k ≤ xs.length) : valB B xs = valB B (xs.take k) + B ^ k * valB B (xs.drop k) := by
 have hl : (xs.take k).length = k := by simp; omega
 conv => lhs; rw [← List.take_append_drop k xs, valB_append, hl]
theorem cmp_lt {B : Nat} (hB : 2 ≤ B) {xs ys : List Int} {k dx dy : Nat} (hr : Rng B xs) (hl : xs.length = ys.length) (hk : k < xs.length) (he : ∀ j, k < j → xs[j]?.getD 0 = ys[j]?.getD 0) (hx : xs[k]?.getD 0 = (dx : Int)) (hy : ys[k]?.getD 0 = (dy : Int)) (h : dx < dy) : valB B xs < valB B ys := by
 have hd : xs.drop (k + 1) = ys.drop (k + 1) := by
  apply List.ext_getElem
  ·simp [hl]
  ·intro i h1 h2
   have h3 : k + 1 + i < xs.length := by simp at h1; omega
   have h4 : k + 1 + i < ys.length := by omega
   have := he (k + 1 + i) (by omega)
   rw [List.getElem?_eq_getElem h3, List.getElem?_eq_getElem h4] at this
   simpa using this
 have e1 : xs.drop k = (dx : Int) :: xs.drop (k + 1) := by
  rw [List.drop_eq_getElem_cons hk]
  rw [List.getElem?_eq_getElem hk] at hx
  congr 1
 have hk2 : k < ys.length := by omega
 have e2 : ys.drop k = (dy : Int) :: ys.drop (k + 1) := by
  rw [List.drop_eq_getElem_cons hk2]
  rw [List.getElem?_eq_getElem hk2] at hy
  congr 1
 rw [valB_split B xs k (by omega), valB_split B ys k (by omega), e1, e2, hd, valB, valB, Int.toNat_natCast, Int.toNat_natCast]
 have h1 := valB_lt hB (hr.take k)
 have hlk : (xs.take k).length = k := by simp; omega
 rw [hlk] at h1
 have h2 : B ^ k * (dx + 1 + B * valB B (ys.drop (k + 1))) ≤ B ^ k * (dy + B * valB B (ys.drop (k + 1))) := Nat.mul_le_mul (Nat.le_refl _) (by omega)
 rw [show dx + 1 + B * valB B (ys.drop (k + 1)) = dx + B * valB B (ys.drop (k + 1)) + 1 by omega, Nat.mul_add, Nat.mul_one] at h2
 omega
theorem cmp_eq {xs ys : List Int} (hl : xs.length = ys.length) (he : ∀ j : Nat, xs[j]?.getD 0 = ys[j]?.getD 0) : xs = ys := by
 apply List.ext_getElem hl
 intro i h1 h2
 have := he i
 rw [List.getElem?_eq_getElem h1, List.getElem?_eq_getElem h2] at this
 simpa using this
def cmpN (m n : Nat) : Int := if m < n then -1 else if n < m then 1 else 0
theorem cmpN_lt {m n : Nat} (h : m < n) : cmpN m n = -1 := by unfold cmpN; rw [if_pos h]
theorem cmpN_gt {m n : Nat} (h : n < m) : cmpN m n = 1 := by unfold cmpN; rw [if_neg (by omega), if_pos h]
theorem cmpN_eq (m : Nat) : cmpN m m = 0 := by unfold cmpN; rw [if_neg (by omega), if_neg (by omega)]
set_option maxHeartbeats 4000000 in
set_option maxRecDepth 100000 in
theorem ncmp_any (a b : Option Addr) (c d m n hi : Nat) (w : World) (h : NAt w hi a c m) (h' : NAt w hi b d n) :
  Calls Tryz.prog 57 #[.slice a (dig 18446744073709551616 m).length c, .slice b (dig 18446744073709551616 n).length d] w fun e w' => e = .returned (.int .i64 (cmpN m n)) ∧ ∃ q, w' = w.drewN q := by
 obtain ⟨X, hXe⟩ : ∃ X, dig 18446744073709551616 m = X := ⟨_, rfl⟩
 obtain ⟨Y, hYe⟩ : ∃ Y, dig 18446744073709551616 n = Y := ⟨_, rfl⟩
 have rX : Rng 18446744073709551616 X := by rw [← hXe]; exact dig_rng (by decide) _
 have rY : Rng 18446744073709551616 Y := by rw [← hYe]; exact dig_rng (by decide) _
 have vX : valB 18446744073709551616 X = m := by rw [← hXe]; exact val_dig (by decide) _
 have vY : valB 18446744073709551616 Y = n := by rw [← hYe]; exact val_dig (by decide) _
 have hcx := h.li
 have hcy := h'.li
 have hmX := hcx.len
 have hmY := hcy.len
 rw [hXe] at hcx hmX ⊢
 rw [hYe] at hcy hmY ⊢
 have HcX := Lib.hid hcx
 have HcY := Lib.hid hcy
 have RX := Lib.hid rX
 have RY := Lib.hid rY
 have VX := Lib.hid vX
 have VY := Lib.hid vY
 have hLL : X.length < Y.length → m < n := fun hh => by
  by_cases hc : n ≤ m
  ·have := dig_len_mono (B := 18446744073709551616) (by decide) hc; rw [hXe, hYe] at this; omega
  ·omega
 have hGG : Y.length < X.length → n < m := fun hh => by
  by_cases hc : m ≤ n
  ·have := dig_len_mono (B := 18446744073709551616) (by decide) hc; rw [hXe, hYe] at this; omega
  ·omega
 clear hXe hYe rX rY vX vY hcx hcy h h'
 by_cases hl : X.length = Y.length
 ·have e1 : ((X.length : Int) != (Y.length : Int)) = false := by simp; omega
  have HL := Lib.hid hl
  clear hLL hGG hl
  have ew : ∀ [Inhabited Unit], RowKit.wrap64 ((X.length : Int) - 1) = (X.length : Int) - 1 := by intro _; exact IntWalk.wrap64_in _ ⟨by omega, by omega⟩
  go_enter Tryz.func57, Tryz.ntmps57
  go_wp2
  go_loopw [5] (fun i wr => ∃ (k : Nat) (I : Int) (q : Nat), k ≤ X.length ∧ i = .int .i64 I ∧ I = (k : Int) - 1 ∧ Hid (∀ j, k ≤ j → X[j]?.getD 0 = Y[j]?.getD 0) ∧ wr = w.drewN q) (fun i _ => (intOf i + 1).toNat)
  case atStart => exact ⟨X.length, _, 0, Nat.le_refl _, rfl, rfl, Lib.hid (fun j hj => by rw [List.getElem?_eq_none hj, List.getElem?_eq_none (by rw [← HL.out]; exact hj)]), rfl⟩
  case round =>
   obtain ⟨k, I, q, hk, rfl, hI, HE, rfl⟩ := hrel
   by_cases hk0 : k = 0
   ·have hmn : m = n := by
     rw [← VX.out, ← VY.out, cmp_eq HL.out (fun j => HE.out j (by omega))]
    subst hmn
    have HZ := Lib.hid (cmpN_eq m)
    obtain rfl : I = -1 := by omega
    clear hI hk0
    go_wp2
    go_ret
    exact ⟨by rw [HZ.out]; rfl, _, rfl⟩
   ·obtain ⟨kk, rfl⟩ : ∃ kk, k = kk + 1 := ⟨k - 1, by omega⟩
    obtain rfl : I = (kk : Int) := by omega
    clear hI hk0
    have hx : kk < X.length := by omega
    have hy : kk < Y.length := by rw [← HL.out]; exact hx
    have dX := RX.out.getD (by decide) kk
    have dY := RY.out.getD (by decide) kk
    obtain ⟨dx, edx⟩ : ∃ d : Nat, X[kk]?.getD 0 = (d : Int) := ⟨(X[kk]?.getD 0).toNat, by omega⟩
    obtain ⟨dy, edy⟩ : ∃ d : Nat, Y[kk]?.getD 0 = (d : Int) := ⟨(Y[kk]?.getD 0).toNat, by omega⟩
    obtain ⟨bX, oX, ex, hlb, cX⟩ := HcX.out.cell kk hx
    obtain ⟨bY, oY, ey, hlb2, cY⟩ := HcY.out.cell kk hy
    rw [edx] at cX
    rw [edy] at cY
    subst ex
    subst ey
    have i0 : (0 : Int) ≤ (kk : Int) := by omega
    have ix : (kk : Int) < (X.length : Int) := by omega
    have iy : (kk : Int) < (Y.length : Int) := by omega
    have ek : ∀ [Inhabited Unit], RowKit.wrap64 ((kk : Int) - 1) = (kk : Int) - 1 := by intro _; exact IntWalk.wrap64_in _ ⟨by omega, by omega⟩
    have HX := Lib.hid edx
    have HY := Lib.hid edy
    clear edx edy dX dY
    rcases Nat.lt_trichotomy dx dy with hlt | heq | hgt
    ·have hmn : m < n := by
      rw [← VX.out, ← VY.out]
      exact cmp_lt (by decide) RX.out HL.out hx (fun j hj => HE.out j (by omega)) HX.out HY.out hlt
     have HZ := Lib.hid (cmpN_lt hmn)
     clear hmn
     have hc : (dx : Int) < (dy : Int) := by omega
     go_upto_region 8 with fail
     go_quiet (fail)
     go_wp2
     go_ret
     exact ⟨by rw [HZ.out]; rfl, _, by first | rfl | exact World.drewN_drewN _ _ _⟩
    ·subst heq
     have HE2 : Hid (∀ j, kk ≤ j → X[j]?.getD 0 = Y[j]?.getD 0) := Lib.hid (fun j hj => by
      by_cases he : j = kk
      ·rw [he, HX.out, HY.out]
      ·exact HE.out j (by omega))
     have hc : ¬ (dx : Int) < (dx : Int) := by omega
     go_upto_region 8 with fail
     go_quiet (fail)
     go_upto_region 10 with fail
     obtain ⟨W1, hW1⟩ : ∃ W1 : World, (w.drewN q).drewN nq = W1 := ⟨_, rfl⟩
     have cX1 : W1.cell? ⟨bX, oX + kk, none⟩ = some (.int .u64 dx) := by rw [← hW1]; exact cX
     have cY1 : W1.cell? ⟨bY, oY + kk, none⟩ = some (.int .u64 dx) := by rw [← hW1]; exact cY
     rw [hW1]
     go_quiet (fail)
     go_wp2
     go_roundw
     case rel => exact ⟨kk, _, _, by omega, rfl, rfl, HE2, by rw [← hW1, World.drewN_drewN, World.drewN_drewN]⟩
     case measure => simp [intOf]
    ·have hmn : n < m := by
      rw [← VX.out, ← VY.out]
      exact cmp_lt (by decide) RY.out HL.out.symm hy (fun j hj => (HE.out j (by omega)).symm) HY.out HX.out hgt
     have HZ := Lib.hid (cmpN_gt hmn)
     clear hmn
     have hc : ¬ (dx : Int) < (dy : Int) := by omega
     have hc2 : (dy : Int) < (dx : Int) := by omega
     go_upto_region 8 with fail
     go_quiet (fail)
     go_upto_region 10 with fail
     obtain ⟨W1, hW1⟩ : ∃ W1 : World, (w.drewN q).drewN nq = W1 := ⟨_, rfl⟩
     have cX1 : W1.cell? ⟨bX, oX + kk, none⟩ = some (.int .u64 dx) := by rw [← hW1]; exact cX
     have cY1 : W1.cell? ⟨bY, oY + kk, none⟩ = some (.int .u64 dy) := by rw [← hW1]; exact cY
     rw [hW1]
     go_quiet (fail)
     go_wp2
     go_ret
     exact ⟨by rw [HZ.out]; rfl, _, by rw [← hW1, World.drewN_drewN, World.drewN_drewN]⟩
 ·have e1 : ((X.length : Int) != (Y.length : Int)) = true := by simp; omega
  by_cases hlt : X.length < Y.length
  ·have HZ := Lib.hid (cmpN_lt (hLL hlt))
   have hc : (X.length : Int) < (Y.length : Int) := by omega
   clear hLL hGG hl hlt
   go_enter Tryz.func57, Tryz.ntmps57
   go_wp2
   go_ret
   exact ⟨by rw [HZ.out]; rfl, 0, rfl⟩
  ·have HZ := Lib.hid (cmpN_gt (hGG (by omega)))
   have hc : ¬ (X.length : Int) < (Y.length : Int) := by omega
   clear hLL hGG hl hlt
   go_enter Tryz.func57, Tryz.ntmps57
   go_wp2
   go_ret
   exact ⟨by rw [HZ.out]; rfl, 0, rfl⟩
theorem nres_c1 {fn : Func} {p : Tmp} {ty : TypeId} (h : fn.results = #[.cell p ty]) (tmps : Array Value) (P : Program) (w : World) :
  (results fn tmps).run P w = ((asAddr (tmps.getD p undef)).run P w).andThen fun a w₁ => (loadVar ty a).run P w₁ := by
 simp only [results, h]
 simp [Sem.run_bind, Result.andThen]
theorem ints_setOtherN {k : IntKind} {w : World} {hi : Nat} {a : Option Addr} {xs : List Int} {q o : Nat} {v v' : Value} (h : Ints k w hi a xs) (hc : w.cell? ⟨q, o, none⟩ = some v) (hv : ∀ x, v ≠ .int k x) : Ints k (w.setCell ⟨q, o, none⟩ v') hi a xs :=
 ⟨h.len, h.wf, fun i hi' => by
  obtain ⟨b, off, ha, hlt, hb⟩ := h.cell i hi'
  refine ⟨b, off, ha, hlt, ?_⟩
  rw [← hb]
  have hn : ¬ (b = q ∧ off + i = o) := by
   rintro ⟨h1, h2⟩
   subst h1 h2
   rw [hc] at hb
   cases hb
   exact hv _ rfl
  by_cases hq : b = q
  ·have h2 : ¬ off + i = o := fun h => hn ⟨hq, h⟩
   go_simp
  ·go_simp⟩
theorem sgnZ_abs (neg : Bool) (m : Nat) : (sgnZ neg m).natAbs = m := by unfold sgnZ; split <;> omega
theorem sgnZ_neg (neg : Bool) (m : Nat) : decide (sgnZ neg m < 0) = (neg && decide (0 < m)) := by
 unfold sgnZ
 cases neg
 ·simp <;> omega
 ·by_cases h : m = 0
  ·subst h; simp
  ·simp <;> omega
def RetZ (w : World) (z : Int) (e : Ending) (w' : World) : Prop :=
 ∃ a c, e = .returned (.agg #[.bool (decide (z < 0)), .slice a (dig 18446744073709551616 z.natAbs).length c]) ∧ NAt w' w'.heap.size a c z.natAbs ∧ Below w.heap.size w w'
theorem sgnZ_eq {neg s : Bool} {m : Nat} (hs : (neg && decide (0 < m)) = s) {w w' : World} {a : Option Addr} {c : Nat} (hN : NAt w' w'.heap.size a c m) (hb : Below w.heap.size w w') : RetZ w (sgnZ neg m) (.returned (.agg #[.bool s, .slice a (dig 18446744073709551616 m).length c])) w' := by
 refine ⟨a, c, ?_, ?_, hb⟩
 ·rw [sgnZ_neg, sgnZ_abs, hs]
 ·rw [sgnZ_abs]; exact hN
set_option maxHeartbeats 1000000 in
theorem made_any (neg : Bool) (a : Option Addr) (c m : Nat) (w : World) (h : NAt w w.heap.size a c m) :
  Calls Tryz.prog 55 #[.bool neg, .slice a (dig 18446744073709551616 m).length c] w (RetZ w (sgnZ neg m)) := by
 have H := Lib.hid h
 have hl := dig_len_zero (B := 18446744073709551616) (m := m) (by decide)
 have hmx := h.c1
 have hmx2 := h.c2
 clear h
 cases neg with
 | false =>
  go_enter Tryz.func55, Tryz.ntmps55
  go_wp2
  refine bodyPost_ret (v := .agg #[.bool false, .slice a (dig 18446744073709551616 m).length c]) (by rw [nres_c1 rfl]; go_simp) rfl ?_
  exact sgnZ_eq rfl (H.out.next (by (repeat' (first | exact Below.refl _ _ | refine Below.drew ?_ | refine Below.setCell ?_ (by first | omega | (simp <;> omega)) _ | refine Below.alloc ?_ (by first | omega | (simp <;> omega)) _)))) (by (repeat' (first | exact Below.refl _ _ | refine Below.drew ?_ | refine Below.setCell ?_ (by first | omega | (simp <;> omega)) _ | refine Below.alloc ?_ (by first | omega | (simp <;> omega)) _)))
 | true =>
  have HS := Lib.hid (show (true && decide (0 < m)) = decide (0 < (dig 18446744073709551616 m).length) by
   rw [Bool.true_and]
   exact decide_eq_decide.2 (by omega))
  clear hl
  go_enter Tryz.func55, Tryz.ntmps55
  go_wp2
  refine bodyPost_ret (v := .agg #[.bool (decide (0 < (dig 18446744073709551616 m).length)), .slice a (dig 18446744073709551616 m).length c]) (by rw [nres_c1 rfl]; go_simp) rfl ?_
  exact sgnZ_eq HS.out (H.out.next (by (repeat' (first | exact Below.refl _ _ | refine Below.drew ?_ | refine Below.setCell ?_ (by first | omega | (simp <;> omega)) _ | refine Below.alloc ?_ (by first | omega | (simp <;> omega)) _)))) (by (repeat' (first | exact Below.refl _ _ | refine Below.drew ?_ | refine Below.setCell ?_ (by first | omega | (simp <;> omega)) _ | refine Below.alloc ?_ (by first | omega | (simp <;> omega)) _)))
theorem zsize_any (n : Int) (w : World) (h0 : -9223372036854775808 ≤ n) (h1 : n ≤ 9223372036854775807) :
  Calls Tryz.prog 60 #[.int .i64 n] w fun e w' => e = .returned (.int .u64 (n.natAbs : Int)) ∧ w = w' := by
 by_cases hn : n < 0
 ·obtain ⟨s, hs, es⟩ : ∃ s : Int, s = n % 18446744073709551616 ∧ ∀ [Inhabited Unit], IntKind.u64.wrap n = s := ⟨_, rfl, fun {_} => by simp [IntKind.wrap, IntKind.bits, IntKind.signed]⟩
  have e2 : ∀ [Inhabited Unit], IntKind.u64.wrap (0 - s) = (n.natAbs : Int) := by intro _; simp [IntKind.wrap, IntKind.bits, IntKind.signed]; omega
  have e3 : ∀ [Inhabited Unit], IntKind.u64.wrap (-s) = (n.natAbs : Int) := by intro _; simp [IntKind.wrap, IntKind.bits, IntKind.signed]; omega
  have hb : 9223372036854775808 ≤ s ∧ s < 18446744073709551616 := by omega
  have HN := Lib.hid hs
  clear hs
  generalize (n.natAbs : Int) = N at *
  go_enter Tryz.func60, Tryz.ntmps60
  go_wp2
  go_ret
  exact ⟨rfl, rfl⟩
 ·have e2 : ∀ [Inhabited Unit], IntKind.u64.wrap n = n := by intro _; exact u64_same _ (by omega) (by omega)
  have HN : Hid ((n.natAbs : Int) = n) := Lib.hid (by omega)
  rw [HN.out]
  go_enter Tryz.func60, Tryz.ntmps60
  go_wp2
  go_ret
  exact ⟨rfl, rfl⟩
theorem nat_set {w : World} {a : Option Addr} {c m q o : Nat} {v v' : Value} (h : NAt w w.heap.size a c m) (hc : w.cell? ⟨q, o, none⟩ = some v) (hv : ∀ x, v ≠ .int .u64 x) : NAt (w.setCell ⟨q, o, none⟩ v') (w.setCell ⟨q, o, none⟩ v').heap.size a c m := by
 have hs : (w.setCell ⟨q, o, none⟩ v').heap.size = w.heap.size := by simp
 rw [hs]
 exact ⟨ints_setOtherN h.li hc hv, h.c1, h.c2⟩
theorem retZ_box {w w3 : World} {z : Int} {q c : Nat} {a : Option Addr} {v0 v1 : Value} (hq : w.heap.size ≤ q) (hN : NAt w3 w3.heap.size a c z.natAbs) (hX : NBox2 w3 q v0 v1) (h0 : ∀ x, v0 ≠ .int .u64 x) (h1 : ∀ x, v1 ≠ .int .u64 x) (hb : Below w.heap.size w w3) (y0 y1 : Value) :
  RetZ w z (.returned (.agg #[.bool (decide (z < 0)), .slice a (dig 18446744073709551616 z.natAbs).length c])) ((w3.setCell ⟨q, 0, none⟩ y0).setCell ⟨q, 1, none⟩ y1) := by
 refine ⟨a, c, rfl, nat_set (v := v1) (nat_set hN hX.c0 h0) ?_ h1, (hb.setCell hq _).setCell hq _⟩
 obtain ⟨c0, c1, f0, f1⟩ := hX
 go_simp
set_option maxHeartbeats 1000000 in
theorem zfrom_any (n : Int) (w : World) (h0 : -9223372036854775808 ≤ n) (h1 : n ≤ 9223372036854775807) : Calls Tryz.prog 26 #[.int .i64 n] w (RetZ w n) := by
 have H1 := fun w => Lib.hid (zsize_any n w h0 h1)
 have H2 := fun w => Lib.hid (nof_any (n.natAbs : Int) ⟨by omega, by omega⟩ w)
 have H3 := fun a c w h => Lib.hid (made_any (decide (n < 0)) a c n.natAbs w h)
 rw [sgnZ_self] at H3
 rw [Int.toNat_natCast] at H2
 have HA := Lib.hid (show (n.natAbs : Int).toNat = n.natAbs from Int.toNat_natCast _)
 go_enter Tryz.func26, Tryz.ntmps26
 go_wp2_with (first | (go_at_call 60; refine (H1 _).out.mono ?_; rintro e w1 ⟨rfl, rfl⟩) | (go_at_call 30; refine (H2 _).out.mono ?_; rintro e w2 ⟨a2, c2, rfl, hN2, hb2⟩; have HN2 := Lib.hid hN2; have HB2 := Lib.hid hb2; have X2 := NBox2.below (b := w.heap.size) (v0 := .bool false) (v1 := .slice none 0 0) (by constructor <;> go_simp) hb2 (by simp); obtain ⟨x0, x1, x2, x3⟩ := X2; have hs2 := hb2.size; clear hN2 hb2) | (go_at_call 55; refine (H3 a2 c2 w2 HN2.out).out.mono ?_; rintro e w3 ⟨a3, c3, rfl, hN3, hb3⟩; have HN3 := Lib.hid hN3; have HB3 := Lib.hid hb3; have X3 := NBox2.below (b := w.heap.size) (v0 := .bool false) (v1 := .slice none 0 0) ⟨x0, x1, x2, x3⟩ hb3 (by simp at hs2; omega); clear x0 x1 x2 x3; obtain ⟨x0, x1, x2, x3⟩ := X3; have hs3 := hb3.size; clear hN3 hb3))
 refine bodyPost_ret (v := .agg #[.bool (decide (n < 0)), .slice a3 (dig 18446744073709551616 n.natAbs).length c3]) (by rw [nres_c1 rfl]; go_simp) rfl ?_
 simp at hs2
 exact retZ_box (Nat.le_refl _) HN3.out ⟨x0, x1, x2, x3⟩ (by intro z h; cases h) (by intro z h; cases h) (((Below.refl w.heap.size w).alloc (Nat.le_refl _) _).trans ((HB2.out.mono (by simp)).trans (HB3.out.mono (by omega)))) _ _
theorem heldZ4 {w0 W W2 : World} {a1 a2 a3 a4 : Addr} {v1 v2 v3 v4 : Value} (h : Below w0.heap.size w0 W ∧ W.cell? a1 = some v1 ∧ W.cell? a2 = some v2 ∧ W.cell? a3 = some v3 ∧ W.cell? a4 = some v4) (hb : Below W.heap.size W W2) : Below w0.heap.size w0 W2 ∧ W2.cell? a1 = some v1 ∧ W2.cell? a2 = some v2 ∧ W2.cell? a3 = some v3 ∧ W2.cell? a4 = some v4 := by
 obtain ⟨h0, h1, h2, h3, h4⟩ := h
 exact ⟨h0.trans (hb.mono h0.size), (hb.cell (World.block_lt_of_cell? W _ h1)).trans h1, (hb.cell (World.block_lt_of_cell? W _ h2)).trans h2, (hb.cell (World.block_lt_of_cell? W _ h3)).trans h3, (hb.cell (World.block_lt_of_cell? W _ h4)).trans h4⟩
theorem heldZ1 {w0 W : World} {p : Prop} (h : Below w0.heap.size w0 W ∧ p) : Below w0.heap.size w0 W := h.1
theorem heldZset {w0 W : World} {b1 b2 r o1 o2 o3 o4 o5 o6 : Nat} {v1 v2 v3 v4 y z : Value} (h : Below w0.heap.size w0 W ∧ W.cell? ⟨b1, o1, none⟩ = some v1 ∧ W.cell? ⟨b1, o2, none⟩ = some v2 ∧ W.cell? ⟨b2, o3, none⟩ = some v3 ∧ W.cell? ⟨b2, o4, none⟩ = some v4) (hr : w0.heap.size ≤ r) (n1 : r ≠ b1) (n2 : r ≠ b2) :
  Below w0.heap.size w0 ((W.setCell ⟨r, o5, none⟩ y).setCell ⟨r, o6, none⟩ z) ∧ ((W.setCell ⟨r, o5, none⟩ y).setCell ⟨r, o6, none⟩ z).cell? ⟨b1, o1, none⟩ = some v1 ∧ ((W.setCell ⟨r, o5, none⟩ y).setCell ⟨r, o6, none⟩ z).cell? ⟨b1, o2, none⟩ = some v2 ∧ ((W.setCell ⟨r, o5, none⟩ y).setCell ⟨r, o6, none⟩ z).cell? ⟨b2, o3, none⟩ = some v3 ∧ ((W.setCell ⟨r, o5, none⟩ y).setCell ⟨r, o6, none⟩ z).cell? ⟨b2, o4, none⟩ = some v4 := by
 obtain ⟨h0, h1, h2, h3, h4⟩ := h
 refine ⟨(h0.setCell hr _).setCell hr _, ?_, ?_, ?_, ?_⟩
 ·rw [World.cell?_setCell_far _ _ _ _ n1, World.cell?_setCell_far _ _ _ _ n1]; exact h1
 ·rw [World.cell?_setCell_far _ _ _ _ n1, World.cell?_setCell_far _ _ _ _ n1]; exact h2
 ·rw [World.cell?_setCell_far _ _ _ _ n2, World.cell?_setCell_far _ _ _ _ n2]; exact h3
 ·rw [World.cell?_setCell_far _ _ _ _ n2, World.cell?_setCell_far _ _ _ _ n2]; exact h4
theorem belowDN {B : Nat} {w W : World} (h : Below B w W) (q : Nat) : Below B w (W.drewN q) := ⟨h.os, h.tape, h.output, h.size, h.block⟩
theorem sgnZ_add (x y : Int) (h : decide (x < 0) = decide (y < 0)) : sgnZ (decide (x < 0)) (x.natAbs + y.natAbs) = x + y := by
 have h2 : (x < 0) ↔ (y < 0) := decide_eq_decide.1 h
 unfold sgnZ
 by_cases h1 : x < 0
 ·rw [decide_eq_true h1, if_pos rfl]; omega
 ·rw [decide_eq_false h1, if_neg (by decide)]; omega
theorem sgnZ_sub (x y : Int) (h : decide (x < 0) ≠ decide (y < 0)) (hc : y.natAbs ≤ x.natAbs) : sgnZ (decide (x < 0)) (x.natAbs - y.natAbs) = x + y := by
 have h2 : ¬ ((x < 0) ↔ (y < 0)) := fun e => h (decide_eq_decide.2 e)
 unfold sgnZ
 by_cases h1 : x < 0
 ·rw [decide_eq_true h1, if_pos rfl]; omega
 ·rw [decide_eq_false h1, if_neg (by decide)]; omega
set_option maxHeartbeats 8000000 in
set_option maxRecDepth 100000 in
theorem zplus_any (a b : Option Addr) (c d : Nat) (x y z : Int) (w : World) (h : NAt w w.heap.size a c x.natAbs) (h' : NAt w w.heap.size b d y.natAbs) (hx : (dig 18446744073709551616 x.natAbs).length ≤ 1000000) (hy : (dig 18446744073709551616 y.natAbs).length ≤ 1000000) (hz : x + y = z) :
  Calls Tryz.prog 24 #[.agg #[.bool (decide (x < 0)), .slice a (dig 18446744073709551616 x.natAbs).length c], .agg #[.bool (decide (y < 0)), .slice b (dig 18446744073709551616 y.natAbs).length d]] w (RetZ w z) := by
 have HP := fun w' (hb : Below w.heap.size w w') => Lib.hid (nplus_any a b c d x.natAbs y.natAbs w' (h.next hb) (h'.next hb) hx hy)
 have H4 := fun w' (hb : Below w.heap.size w w') hc => Lib.hid (nless_any a b c d x.natAbs y.natAbs w' (h.next hb) (h'.next hb) hx hy hc)
 have H5 := fun w' (hb : Below w.heap.size w w') hc => Lib.hid (nless_any b a d c y.natAbs x.natAbs w' (h'.next hb) (h.next hb) hy hx hc)
 have HC := fun w' (hb : Below w.heap.size w w') => Lib.hid (ncmp_any a b c d x.natAbs y.natAbs w'.heap.size w' (h.next hb) (h'.next hb))
 have hadd : (decide (x < 0) == decide (y < 0)) = true → sgnZ (decide (x < 0)) (x.natAbs + y.natAbs) = z := fun e => by rw [sgnZ_add x y (by simpa using e), hz]
 have hsub : (decide (x < 0) == decide (y < 0)) = false → y.natAbs ≤ x.natAbs → sgnZ (decide (x < 0)) (x.natAbs - y.natAbs) = z := fun e hc => by rw [sgnZ_sub x y (by simpa using e) hc, hz]
 have hsub2 : (decide (x < 0) == decide (y < 0)) = false → x.natAbs ≤ y.natAbs → sgnZ (decide (y < 0)) (y.natAbs - x.natAbs) = z := fun e hc => by rw [sgnZ_sub y x (fun h => by simp [h] at e) hc, Int.add_comm, hz]
 clear h h' hz
 generalize dig 18446744073709551616 x.natAbs = X at *
 generalize dig 18446744073709551616 y.natAbs = Y at *
 generalize decide (x < 0) = s at *
 generalize decide (y < 0) = t at *
 generalize x.natAbs = m at *
 generalize y.natAbs = n at *
 cases hst : (s == t) with
 | true =>
  have EZ := Lib.hid (hadd hst)
  have EQ := Lib.hid hst
  clear hadd hsub hsub2
  as_aux_lemma =>
   go_enter Tryz.func24, Tryz.ntmps24
   go_upto_region 2 with fail
   refine wp_region_held_drew (S := (fun w' => Below w.heap.size w w' ∧ w'.cell? ⟨w.heap.size, 0, none⟩ = some (.bool s) ∧ w'.cell? ⟨w.heap.size, 1, none⟩ = some (.slice a X.length c) ∧ w'.cell? ⟨w.heap.size + 1, 0, none⟩ = some (.bool t) ∧ w'.cell? ⟨w.heap.size + 1, 1, none⟩ = some (.slice b Y.length d))) (by kernel_rfl) (⟨(by (repeat' (first | exact Below.refl _ _ | refine belowDN ?_ _ | refine Below.drew ?_ | refine Below.setCell ?_ (by first | omega | (simp <;> omega)) _ | refine Below.alloc ?_ (by first | omega | (simp <;> omega)) _))), by go_simp, by go_simp, by go_simp, by go_simp⟩) (fun hHeld => ?_)
   refine takeY (i := 0) (dst := (some 10)) (v := ?_) rfl rfl (by kernel_rfl) (by kernel_rfl) (by kernel_rfl) (fun _ _ _ h => h) (by rfl) ?hy3w0 (by assumption) ?rest3w0
   case hy3w0 => (intro w hSw; (try dsimp only at hSw); go_simp; (try with_reducible rfl))
   refine takeY (i := 1) (dst := (some 11)) (v := ?_) rfl rfl (by kernel_rfl) (by kernel_rfl) (by kernel_rfl) (fun _ _ _ h => h) (by rfl) ?hy3w1 (by assumption) ?rest3w1
   case hy3w1 => (intro w hSw; (try dsimp only at hSw); go_simp; (try with_reducible rfl))
   refine takeY (i := 2) (dst := (some 12)) (v := ?_) rfl rfl (by kernel_rfl) (by kernel_rfl) (by kernel_rfl) (fun _ _ _ h => h) (by rfl) ?hy3w2 (by assumption) ?rest3w2
   case hy3w2 => (intro w hSw; (try dsimp only at hSw); go_simp; (try with_reducible rfl))
   refine takeY (i := 3) (dst := (some 13)) (v := ?_) rfl rfl (by kernel_rfl) (by kernel_rfl) (by kernel_rfl) (fun _ _ _ h => h) (by rfl) ?hy3w3 (by assumption) ?rest3w3
   case hy3w3 => (intro w hSw; (try dsimp only at hSw); go_simp; (try with_reducible rfl))
   refine takeY (i := 4) (dst := (some 14)) (v := ?_) rfl rfl (by kernel_rfl) (by kernel_rfl) (by kernel_rfl) (fun _ _ _ h => h) (by rfl) ?hy3w4 (by assumption) ?rest3w4
   case hy3w4 => (intro w hSw; (try dsimp only at hSw); go_simp; (try with_reducible rfl))
   refine takeY (i := 5) (dst := (some 15)) (v := ?_) rfl rfl (by kernel_rfl) (by kernel_rfl) (by kernel_rfl) (fun _ _ _ h => h) (by rfl) ?hy3w5 (by assumption) ?rest3w5
   case hy3w5 => (intro w hSw; (try dsimp only at hSw); go_simp; (try with_reducible rfl))
   refine wpAnyH_ready (rs := [6]) (by kernel_rfl) (by simp) (AllReadyH.cons rfl (fun K hK => ?_) AllReadyH.nil)
   go_simp
   (go_at_call 56; refine (HP _ (heldZ1 (by assumption))).out.mono ?_; rintro e w5 ⟨a5, c5, rfl, hN5, hb5⟩; have X5 := NBox2.below (b := w.heap.size + 1 + 1) (v0 := .bool false) (v1 := .slice none 0 0) (by constructor <;> go_simp) hb5 (by first | omega | (simp <;> omega)); have hs5 := hb5.size; (try simp at hs5); have HM := made_any s a5 c5 _ w5 hN5; rw [EZ.out] at HM; have HM2 := Lib.hid HM; clear HM hN5)
   (try go_wp2_with fail)
   refine hK.out _ _ (heldZ4 (by assumption) (by assumption)) (fun hHeld => ?_)
   clear hK K
   refine wpAnyH_ready (rs := [7]) (by kernel_rfl) (by simp) (AllReadyH.cons rfl (fun K hK => ?_) AllReadyH.nil)
   go_simp
   (go_at_call 55; refine HM2.out.mono ?_; rintro e w6 ⟨a6, c6, rfl, hN6, hb6⟩; have HN6 := Lib.hid hN6; have X6 := X5.below hb6 (by first | omega | (simp <;> omega)); have hs6 := hb6.size; clear hN6 X5; have HX6 := Lib.hid X6; obtain ⟨x0, x1, x2, x3⟩ := X6)
   (try go_wp2_with fail)
   refine hK.out _ _ (heldZ4 (by assumption) (by assumption)) (fun hHeld => ?_)
   clear hK K
   refine wpAnyH_ready (rs := [8]) (by kernel_rfl) (by simp) (AllReadyH.cons rfl (fun K hK => ?_) AllReadyH.nil)
   go_simp
   skip
   (try go_wp2_with fail)
   refine hK.out _ _ (heldZset (by assumption) (by omega) (by omega) (by omega)) (fun hHeld => ?_)
   clear hK K
   refine wpAnyH_done (by kernel_rfl) ?_ _
   go_wp2_with fail
   refine bodyPost_ret (v := .agg #[.bool (decide ((z) < 0)), .slice a6 (dig 18446744073709551616 (z).natAbs).length c6]) (by rw [nres_c1 rfl]; go_simp) rfl ?_
   exact retZ_box (by omega) HN6.out HX6.out (by intro z h; cases h) (by intro z h; cases h) (Below.trans (Below.trans (by (repeat' (first | exact Below.refl _ _ | refine belowDN ?_ _ | refine Below.drew ?_ | refine Below.setCell ?_ (by first | omega | (simp <;> omega)) _ | refine Below.alloc ?_ (by first | omega | (simp <;> omega)) _))) (hb5.mono (by first | omega | (simp <;> omega)))) (hb6.mono (by first | omega | (simp <;> omega)))) _ _
 | false =>
  by_cases hc : n ≤ m
  ·have EZ := Lib.hid (hsub hst hc)
   have HU := (fun w' hb => H4 w' hb hc)
   have eC : (0 : Int) ≤ cmpN m n := by
    unfold cmpN
    rw [if_neg (by omega)]
    split <;> decide
   clear hadd hsub hsub2 hc
   generalize cmpN m n = C at *
   as_aux_lemma =>
    go_enter Tryz.func24, Tryz.ntmps24
    go_upto_region 4 with (go_at_call 57; refine (HC _ (by (repeat' (first | exact Below.refl _ _ | refine belowDN ?_ _ | refine Below.drew ?_ | refine Below.setCell ?_ (by first | omega | (simp <;> omega)) _ | refine Below.alloc ?_ (by first | omega | (simp <;> omega)) _)))).out.mono ?_; rintro e w4 ⟨rfl, q, rfl⟩)
    refine wp_region_held_drew (S := (fun w' => Below w.heap.size w w' ∧ w'.cell? ⟨w.heap.size, 0, none⟩ = some (.bool s) ∧ w'.cell? ⟨w.heap.size, 1, none⟩ = some (.slice a X.length c) ∧ w'.cell? ⟨w.heap.size + 1, 0, none⟩ = some (.bool t) ∧ w'.cell? ⟨w.heap.size + 1, 1, none⟩ = some (.slice b Y.length d))) (by kernel_rfl) (⟨(by (repeat' (first | exact Below.refl _ _ | refine belowDN ?_ _ | refine Below.drew ?_ | refine Below.setCell ?_ (by first | omega | (simp <;> omega)) _ | refine Below.alloc ?_ (by first | omega | (simp <;> omega)) _))), by go_simp, by go_simp, by go_simp, by go_simp⟩) (fun hHeld => ?_)
    refine takeY (i := 0) (dst := (some 24)) (v := ?_) rfl rfl (by kernel_rfl) (by kernel_rfl) (by kernel_rfl) (fun _ _ _ h => h) (by rfl) ?hy4w0 (by assumption) ?rest4w0
    case hy4w0 => (intro w hSw; (try dsimp only at hSw); go_simp; (try with_reducible rfl))
    refine takeY (i := 1) (dst := (some 25)) (v := ?_) rfl rfl (by kernel_rfl) (by kernel_rfl) (by kernel_rfl) (fun _ _ _ h => h) (by rfl) ?hy4w1 (by assumption) ?rest4w1
    case hy4w1 => (intro w hSw; (try dsimp only at hSw); go_simp; (try with_reducible rfl))
    refine takeY (i := 2) (dst := (some 26)) (v := ?_) rfl rfl (by kernel_rfl) (by kernel_rfl) (by kernel_rfl) (fun _ _ _ h => h) (by rfl) ?hy4w2 (by assumption) ?rest4w2
    case hy4w2 => (intro w hSw; (try dsimp only at hSw); go_simp; (try with_reducible rfl))
    refine takeY (i := 3) (dst := (some 27)) (v := ?_) rfl rfl (by kernel_rfl) (by kernel_rfl) (by kernel_rfl) (fun _ _ _ h => h) (by rfl) ?hy4w3 (by assumption) ?rest4w3
    case hy4w3 => (intro w hSw; (try dsimp only at hSw); go_simp; (try with_reducible rfl))
    refine takeY (i := 4) (dst := (some 28)) (v := ?_) rfl rfl (by kernel_rfl) (by kernel_rfl) (by kernel_rfl) (fun _ _ _ h => h) (by rfl) ?hy4w4 (by assumption) ?rest4w4
    case hy4w4 => (intro w hSw; (try dsimp only at hSw); go_simp; (try with_reducible rfl))
    refine takeY (i := 5) (dst := (some 29)) (v := ?_) rfl rfl (by kernel_rfl) (by kernel_rfl) (by kernel_rfl) (fun _ _ _ h => h) (by rfl) ?hy4w5 (by assumption) ?rest4w5
    case hy4w5 => (intro w hSw; (try dsimp only at hSw); go_simp; (try with_reducible rfl))
    refine wpAnyH_ready (rs := [6]) (by kernel_rfl) (by simp) (AllReadyH.cons rfl (fun K hK => ?_) AllReadyH.nil)
    go_simp
    (go_at_call 58; refine (HU _ (heldZ1 (by assumption))).out.mono ?_; rintro e w5 ⟨a5, c5, rfl, hN5, hb5⟩; have X5 := NBox2.below (b := w.heap.size + 1 + 1) (v0 := .bool false) (v1 := .slice none 0 0) (by constructor <;> go_simp) hb5 (by first | omega | (simp <;> omega)); have hs5 := hb5.size; (try simp at hs5); have HM := made_any s a5 c5 _ w5 hN5; rw [EZ.out] at HM; have HM2 := Lib.hid HM; clear HM hN5)
    (try go_wp2_with fail)
    refine hK.out _ _ (heldZ4 (by assumption) (by assumption)) (fun hHeld => ?_)
    clear hK K
    refine wpAnyH_ready (rs := [7]) (by kernel_rfl) (by simp) (AllReadyH.cons rfl (fun K hK => ?_) AllReadyH.nil)
    go_simp
    (go_at_call 55; refine HM2.out.mono ?_; rintro e w6 ⟨a6, c6, rfl, hN6, hb6⟩; have HN6 := Lib.hid hN6; have X6 := X5.below hb6 (by first | omega | (simp <;> omega)); have hs6 := hb6.size; clear hN6 X5; have HX6 := Lib.hid X6; obtain ⟨x0, x1, x2, x3⟩ := X6)
    (try go_wp2_with fail)
    refine hK.out _ _ (heldZ4 (by assumption) (by assumption)) (fun hHeld => ?_)
    clear hK K
    refine wpAnyH_ready (rs := [8]) (by kernel_rfl) (by simp) (AllReadyH.cons rfl (fun K hK => ?_) AllReadyH.nil)
    go_simp
    skip
    (try go_wp2_with fail)
    refine hK.out _ _ (heldZset (by assumption) (by omega) (by omega) (by omega)) (fun hHeld => ?_)
    clear hK K
    refine wpAnyH_done (by kernel_rfl) ?_ _
    go_wp2_with fail
    refine bodyPost_ret (v := .agg #[.bool (decide ((z) < 0)), .slice a6 (dig 18446744073709551616 (z).natAbs).length c6]) (by rw [nres_c1 rfl]; go_simp) rfl ?_
    exact retZ_box (by omega) HN6.out HX6.out (by intro z h; cases h) (by intro z h; cases h) (Below.trans (Below.trans (by (repeat' (first | exact Below.refl _ _ | refine belowDN ?_ _ | refine Below.drew ?_ | refine Below.setCell ?_ (by first | omega | (simp <;> omega)) _ | refine Below.alloc ?_ (by first | omega | (simp <;> omega)) _))) (hb5.mono (by first | omega | (simp <;> omega)))) (hb6.mono (by first | omega | (simp <;> omega)))) _ _
  ·have EZ := Lib.hid (hsub2 hst (by omega))
   have HU := (fun w' hb => H5 w' hb (by omega))
   have eC : ¬ (0 : Int) ≤ cmpN m n := by
    rw [cmpN_lt (by omega)]
    decide
   clear hadd hsub hsub2 hc
   generalize cmpN m n = C at *
   as_aux_lemma =>
    go_enter Tryz.func24, Tryz.ntmps24
    go_upto_region 5 with (go_at_call 57; refine (HC _ (by (repeat' (first | exact Below.refl _ _ | refine belowDN ?_ _ | refine Below.drew ?_ | refine Below.setCell ?_ (by first | omega | (simp <;> omega)) _ | refine Below.alloc ?_ (by first | omega | (simp <;> omega)) _)))).out.mono ?_; rintro e w4 ⟨rfl, q, rfl⟩)
    refine wp_region_held_drew (S := (fun w' => Below w.heap.size w w' ∧ w'.cell? ⟨w.heap.size, 0, none⟩ = some (.bool s) ∧ w'.cell? ⟨w.heap.size, 1, none⟩ = some (.slice a X.length c) ∧ w'.cell? ⟨w.heap.size + 1, 0, none⟩ = some (.bool t) ∧ w'.cell? ⟨w.heap.size + 1, 1, none⟩ = some (.slice b Y.length d))) (by kernel_rfl) (⟨(by (repeat' (first | exact Below.refl _ _ | refine belowDN ?_ _ | refine Below.drew ?_ | refine Below.setCell ?_ (by first | omega | (simp <;> omega)) _ | refine Below.alloc ?_ (by first | omega | (simp <;> omega)) _))), by go_simp, by go_simp, by go_simp, by go_simp⟩) (fun hHeld => ?_)
    refine takeY (i := 0) (dst := (some 32)) (v := ?_) rfl rfl (by kernel_rfl) (by kernel_rfl) (by kernel_rfl) (fun _ _ _ h => h) (by rfl) ?hy5w0 (by assumption) ?rest5w0
    case hy5w0 => (intro w hSw; (try dsimp only at hSw); go_simp; (try with_reducible rfl))
    refine takeY (i := 1) (dst := (some 33)) (v := ?_) rfl rfl (by kernel_rfl) (by kernel_rfl) (by kernel_rfl) (fun _ _ _ h => h) (by rfl) ?hy5w1 (by assumption) ?rest5w1
    case hy5w1 => (intro w hSw; (try dsimp only at hSw); go_simp; (try with_reducible rfl))
    refine takeY (i := 2) (dst := (some 34)) (v := ?_) rfl rfl (by kernel_rfl) (by kernel_rfl) (by kernel_rfl) (fun _ _ _ h => h) (by rfl) ?hy5w2 (by assumption) ?rest5w2
    case hy5w2 => (intro w hSw; (try dsimp only at hSw); go_simp; (try with_reducible rfl))
    refine takeY (i := 3) (dst := (some 35)) (v := ?_) rfl rfl (by kernel_rfl) (by kernel_rfl) (by kernel_rfl) (fun _ _ _ h => h) (by rfl) ?hy5w3 (by assumption) ?rest5w3
    case hy5w3 => (intro w hSw; (try dsimp only at hSw); go_simp; (try with_reducible rfl))
    refine takeY (i := 4) (dst := (some 36)) (v := ?_) rfl rfl (by kernel_rfl) (by kernel_rfl) (by kernel_rfl) (fun _ _ _ h => h) (by rfl) ?hy5w4 (by assumption) ?rest5w4
    case hy5w4 => (intro w hSw; (try dsimp only at hSw); go_simp; (try with_reducible rfl))
    refine takeY (i := 5) (dst := (some 37)) (v := ?_) rfl rfl (by kernel_rfl) (by kernel_rfl) (by kernel_rfl) (fun _ _ _ h => h) (by rfl) ?hy5w5 (by assumption) ?rest5w5
    case hy5w5 => (intro w hSw; (try dsimp only at hSw); go_simp; (try with_reducible rfl))
    refine wpAnyH_ready (rs := [6]) (by kernel_rfl) (by simp) (AllReadyH.cons rfl (fun K hK => ?_) AllReadyH.nil)
    go_simp
    (go_at_call 58; refine (HU _ (heldZ1 (by assumption))).out.mono ?_; rintro e w5 ⟨a5, c5, rfl, hN5, hb5⟩; have X5 := NBox2.below (b := w.heap.size + 1 + 1) (v0 := .bool false) (v1 := .slice none 0 0) (by constructor <;> go_simp) hb5 (by first | omega | (simp <;> omega)); have hs5 := hb5.size; (try simp at hs5); have HM := made_any t a5 c5 _ w5 hN5; rw [EZ.out] at HM; have HM2 := Lib.hid HM; clear HM hN5)
    (try go_wp2_with fail)
    refine hK.out _ _ (heldZ4 (by assumption) (by assumption)) (fun hHeld => ?_)
    clear hK K
    refine wpAnyH_ready (rs := [7]) (by kernel_rfl) (by simp) (AllReadyH.cons rfl (fun K hK => ?_) AllReadyH.nil)
    go_simp
    (go_at_call 55; refine HM2.out.mono ?_; rintro e w6 ⟨a6, c6, rfl, hN6, hb6⟩; have HN6 := Lib.hid hN6; have X6 := X5.below hb6 (by first | omega | (simp <;> omega)); have hs6 := hb6.size; clear hN6 X5; have HX6 := Lib.hid X6; obtain ⟨x0, x1, x2, x3⟩ := X6)
    (try go_wp2_with fail)
    refine hK.out _ _ (heldZ4 (by assumption) (by assumption)) (fun hHeld => ?_)
    clear hK K
    refine wpAnyH_ready (rs := [8]) (by kernel_rfl) (by simp) (AllReadyH.cons rfl (fun K hK => ?_) AllReadyH.nil)
    go_simp
    skip
    (try go_wp2_with fail)
    refine hK.out _ _ (heldZset (by assumption) (by omega) (by omega) (by omega)) (fun hHeld => ?_)
    clear hK K
    refine wpAnyH_done (by kernel_rfl) ?_ _
    go_wp2_with fail
    refine bodyPost_ret (v := .agg #[.bool (decide ((z) < 0)), .slice a6 (dig 18446744073709551616 (z).natAbs).length c6]) (by rw [nres_c1 rfl]; go_simp) rfl ?_
    exact retZ_box (by omega) HN6.out HX6.out (by intro z h; cases h) (by intro z h; cases h) (Below.trans (Below.trans (by (repeat' (first | exact Below.refl _ _ | refine belowDN ?_ _ | refine Below.drew ?_ | refine Below.setCell ?_ (by first | omega | (simp <;> omega)) _ | refine Below.alloc ?_ (by first | omega | (simp <;> omega)) _))) (hb5.mono (by first | omega | (simp <;> omega)))) (hb6.mono (by first | omega | (simp <;> omega)))) _ _
def smallZ (z : Int) : Bool := decide (-9223372036854775808 ≤ z) && decide (z ≤ 9223372036854775807)
theorem dig_one {m : Nat} (h0 : m ≠ 0) (h1 : m < 18446744073709551616) : dig 18446744073709551616 m = [(m : Int)] := by
 rw [dig_pos (by decide) h0, Nat.mod_eq_of_lt h1, Nat.div_eq_of_lt h1, dig_zero]
theorem dig_more {m : Nat} (h1 : 18446744073709551616 ≤ m) : 1 < (dig 18446744073709551616 m).length := by
 have h := lt_dig_len (B := 18446744073709551616) (by decide) m
 by_cases hc : 1 < (dig 18446744073709551616 m).length
 ·exact hc
 ·have := Nat.pow_le_pow_right (show 0 < 18446744073709551616 by decide) (show (dig 18446744073709551616 m).length ≤ 1 by omega)
  omega
def RetSm (w : World) (v : Int) (ok : Bool) (e : Ending) (w' : World) : Prop := e = .returned (.tuple #[.int .i64 v, .bool ok]) ∧ Below w.heap.size w w'
set_option maxHeartbeats 2000000 in
theorem zsmall_any (a : Option Addr) (c : Nat) (z : Int) (w : World) (h : NAt w w.heap.size a c z.natAbs) :
  Calls Tryz.prog 90 #[.agg #[.bool (decide (z < 0)), .slice a (dig 18446744073709551616 z.natAbs).length c]] w (RetSm w (if smallZ z = true then z else 0) (smallZ z)) := by
 have hli := h.li
 by_cases h0 : z = 0
 ·subst h0
  have e0 : smallZ 0 = true := by decide
  rw [e0, if_pos rfl]
  have hX : dig 18446744073709551616 (0 : Int).natAbs = [] := rfl
  rw [hX]
  clear hli h e0 hX
  go_enter Tryz.func90, Tryz.ntmps90
  go_wp2
  exact bodyPost_ret (v := .tuple #[.int .i64 0, .bool true]) (by rw [results_tmp2 rfl]; go_simp) rfl ⟨rfl, (by (repeat' (first | exact Below.refl _ _ | refine Below.drew ?_ | refine Below.setCell ?_ (by first | omega | (simp <;> omega)) _ | refine Below.alloc ?_ (by first | omega | (simp <;> omega)) _)))⟩
 ·by_cases hbig : 18446744073709551616 ≤ z.natAbs
  ·have hl := dig_more hbig
   have e0 : smallZ z = false := by unfold smallZ; simp; omega
   rw [e0, if_neg (by decide)]
   have e1 : (((dig 18446744073709551616 z.natAbs).length : Int) == 0) = false := by simp; intro hc; rw [hc] at hl; simp at hl
   obtain ⟨b, off, rfl, hlb, cX⟩ := hli.cell 0 (by omega)
   rw [Nat.add_zero] at cX
   have l1 : (1 : Int) < ((dig 18446744073709551616 z.natAbs).length : Int) := by omega
   have l0 : (0 : Int) < ((dig 18446744073709551616 z.natAbs).length : Int) := by omega
   have l2 : 0 < (dig 18446744073709551616 z.natAbs).length := by omega
   generalize (dig 18446744073709551616 z.natAbs)[0]?.getD 0 = x at *
   generalize dig 18446744073709551616 z.natAbs = X at *
   clear hli h e0 hbig h0 hl
   cases decide (z < 0)
   ·skip
    go_enter Tryz.func90, Tryz.ntmps90
    go_wp2
    exact bodyPost_ret (v := .tuple #[.int .i64 0, .bool false]) (by rw [results_tmp2 rfl]; go_simp) rfl ⟨rfl, (by (repeat' (first | exact Below.refl _ _ | refine Below.drew ?_ | refine Below.setCell ?_ (by first | omega | (simp <;> omega)) _ | refine Below.alloc ?_ (by first | omega | (simp <;> omega)) _)))⟩
   ·skip
    go_enter Tryz.func90, Tryz.ntmps90
    go_wp2
    exact bodyPost_ret (v := .tuple #[.int .i64 0, .bool false]) (by rw [results_tmp2 rfl]; go_simp) rfl ⟨rfl, (by (repeat' (first | exact Below.refl _ _ | refine Below.drew ?_ | refine Below.setCell ?_ (by first | omega | (simp <;> omega)) _ | refine Below.alloc ?_ (by first | omega | (simp <;> omega)) _)))⟩
  ·have hX := dig_one (m := z.natAbs) (by omega) (by omega)
   rw [hX] at hli ⊢
   obtain ⟨b, off, rfl, hlb, cX⟩ := hli.cell 0 (by simp)
   simp only [List.getElem?_cons_zero, Option.getD_some, Nat.add_zero] at cX
   obtain ⟨m, hm⟩ : ∃ m, z.natAbs = m := ⟨_, rfl⟩
   rw [hm] at cX
   have hmb : m < 18446744073709551616 := by omega
   clear hli h hX
   by_cases hs : z < 0
   ·rw [decide_eq_true hs]
    by_cases hr : m ≤ 9223372036854775808
    ·have e0 : smallZ z = true := by unfold smallZ; simp; omega
     rw [e0, if_pos rfl]
     have g1 : ¬ (9223372036854775808 : Int) < (m : Int) := by omega
     have r1 : ∀ [Inhabited Unit], IntKind.u64.wrap (-(m : Int)) = 18446744073709551616 - (m : Int) := by intro _; simp [IntKind.wrap, IntKind.bits, IntKind.signed]; omega
     have r2 : ∀ [Inhabited Unit], IntKind.i64.wrap (18446744073709551616 - (m : Int)) = z := by intro _; simp [IntKind.wrap, IntKind.bits, IntKind.signed]; omega
     have r3 : ∀ [Inhabited Unit], RowKit.wrap64 (18446744073709551616 - (m : Int)) = z := by intro _; unfold RowKit.wrap64; omega
     clear e0 hm hs h0 hbig
     go_enter Tryz.func90, Tryz.ntmps90
     go_wp2
     exact bodyPost_ret (v := .tuple #[.int .i64 z, .bool true]) (by rw [results_tmp2 rfl]; go_simp) rfl ⟨rfl, (by (repeat' (first | exact Below.refl _ _ | refine Below.drew ?_ | refine Below.setCell ?_ (by first | omega | (simp <;> omega)) _ | refine Below.alloc ?_ (by first | omega | (simp <;> omega)) _)))⟩
    ·have e0 : smallZ z = false := by unfold smallZ; simp; omega
     rw [e0, if_neg (by decide)]
     have g1 : (9223372036854775808 : Int) < (m : Int) := by omega
     clear e0 hm hs h0 hbig hr
     go_enter Tryz.func90, Tryz.ntmps90
     go_wp2
     exact bodyPost_ret (v := .tuple #[.int .i64 0, .bool false]) (by rw [results_tmp2 rfl]; go_simp) rfl ⟨rfl, (by (repeat' (first | exact Below.refl _ _ | refine Below.drew ?_ | refine Below.setCell ?_ (by first | omega | (simp <;> omega)) _ | refine Below.alloc ?_ (by first | omega | (simp <;> omega)) _)))⟩
   ·rw [decide_eq_false hs]
    by_cases hr : m ≤ 9223372036854775807
    ·have e0 : smallZ z = true := by unfold smallZ; simp; omega
     rw [e0, if_pos rfl]
     have g1 : ¬ (9223372036854775808 : Int) ≤ (m : Int) := by omega
     obtain rfl : z = (m : Int) := by omega
     have r2 : ∀ [Inhabited Unit], IntKind.i64.wrap (m : Int) = (m : Int) := by intro _; rw [IntWalk.i64_left]; exact IntWalk.wrap64_in _ ⟨by omega, by omega⟩
     have r3 : ∀ [Inhabited Unit], RowKit.wrap64 (m : Int) = (m : Int) := by intro _; exact IntWalk.wrap64_in _ ⟨by omega, by omega⟩
     clear e0 hm hs h0 hbig
     go_enter Tryz.func90, Tryz.ntmps90
     go_wp2
     exact bodyPost_ret (v := .tuple #[.int .i64 (m : Int), .bool true]) (by rw [results_tmp2 rfl]; go_simp) rfl ⟨rfl, (by (repeat' (first | exact Below.refl _ _ | refine Below.drew ?_ | refine Below.setCell ?_ (by first | omega | (simp <;> omega)) _ | refine Below.alloc ?_ (by first | omega | (simp <;> omega)) _)))⟩
    ·have e0 : smallZ z = false := by unfold smallZ; simp; omega
     rw [e0, if_neg (by decide)]
     have g1 : (9223372036854775808 : Int) ≤ (m : Int) := by omega
     clear e0 hm hs h0 hbig hr
     go_enter Tryz.func90, Tryz.ntmps90
     go_wp2
     exact bodyPost_ret (v := .tuple #[.int .i64 0, .bool false]) (by rw [results_tmp2 rfl]; go_simp) rfl ⟨rfl, (by (repeat' (first | exact Below.refl _ _ | refine Below.drew ?_ | refine Below.setCell ?_ (by first | omega | (simp <;> omega)) _ | refine Below.alloc ?_ (by first | omega | (simp <;> omega)) _)))⟩
end Go.Proofs.YtadlnmckcnfacaaGreat
namespace Go.Proofs.YtadlnmckcnfacaaGreat
open Go.RowKit Go.Rt
set_option maxRecDepth 100000
theorem mayW_any (v : Int) (w : World) : Calls Tryz.prog 51 #[.int .i64 v] w fun e w' => e = .returned (.bool (isW v)) ∧ w = w' := ref2May_any v w
set_option maxHeartbeats 1000000 in
theorem ref2Word_any (a : Option Addr) (c : Nat) (z : Int) (w : World) (h : NAt w w.heap.size a c z.natAbs) :
  Calls Tryz.prog 61 #[.agg #[.bool (decide (z < 0)), .slice a (dig 18446744073709551616 z.natAbs).length c]] w fun e w' => RetV (wordV z) (wordE z) e ∧ Below w.heap.size w w' := by
 have hs := fun w' (hb : Below w.heap.size w w') => Lib.hid (zsmall_any a c z w' (h.next hb))
 cases hz : smallZ z with
 | true =>
  rw [hz, if_pos rfl] at hs
  have hm := fun w => Lib.hid (mayW_any z w)
  unfold wordV wordE
  cases hw : isW z
  all_goals
   rw [hw] at hm
   simp only [if_true, Bool.false_eq_true, if_false]
   clear hz h
   generalize decide (z < 0) = s at *
   generalize dig 18446744073709551616 z.natAbs = X at *
   go_enter Tryz.func61, Tryz.ntmps61
   go_wp2_with (first | (go_at_call 90; refine (hs _ (by (repeat' (first | exact Below.refl _ _ | refine Below.drew ?_ | refine Below.setCell ?_ (by first | omega | (simp <;> omega)) _ | refine Below.alloc ?_ (by first | omega | (simp <;> omega)) _)))).out.mono ?_; unfold RetSm; rintro e w1 ⟨rfl, hb⟩; have HB1 := Lib.hid hb; clear hb) | (go_at_call 51; refine (hm _).out.mono ?_; rintro e w' ⟨rfl, rfl⟩))
   exact bodyPost_ret (by rw [results_tmp2 rfl]; go_simp) rfl ⟨rfl, Below.trans (by (repeat' (first | exact Below.refl _ _ | refine Below.drew ?_ | refine Below.setCell ?_ (by first | omega | (simp <;> omega)) _ | refine Below.alloc ?_ (by first | omega | (simp <;> omega)) _))) (HB1.out.mono (by first | omega | (simp <;> omega)))⟩
 | false =>
  have e1 : isW z = false := by
   cases hb : isW z with
   | false => rfl
   | true =>
    have := isW_iff.1 hb
    unfold smallZ at hz
    simp at hz
    omega
  have e2 : wordV z = 0 := by unfold wordV; rw [e1]; rfl
  have e3 : wordE z = 3 := by unfold wordE; rw [e1]; rfl
  rw [e2, e3]
  rw [hz, if_neg (by decide)] at hs
  clear e1 e2 e3 hz h
  generalize decide (z < 0) = s at *
  generalize dig 18446744073709551616 z.natAbs = X at *
  go_enter Tryz.func61, Tryz.ntmps61
  go_wp2_with (first | (go_at_call 90; refine (hs _ (by (repeat' (first | exact Below.refl _ _ | refine Below.drew ?_ | refine Below.setCell ?_ (by first | omega | (simp <;> omega)) _ | refine Below.alloc ?_ (by first | omega | (simp <;> omega)) _)))).out.mono ?_; unfold RetSm; rintro e w1 ⟨rfl, hb⟩; have HB1 := Lib.hid hb; clear hb))
  exact bodyPost_ret (by rw [results_tmp2 rfl]; go_simp) rfl ⟨rfl, Below.trans (by (repeat' (first | exact Below.refl _ _ | refine Below.drew ?_ | refine Below.setCell ?_ (by first | omega | (simp <;> omega)) _ | refine Below.alloc ?_ (by first | omega | (simp <;> omega)) _))) (HB1.out.mono (by first | omega | (simp <;> omega)))⟩
end Go.Proofs.YtadlnmckcnfacaaGreat
