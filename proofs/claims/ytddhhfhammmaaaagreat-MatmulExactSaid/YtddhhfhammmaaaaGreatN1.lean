/- Walks of the references' whole numbers: limbs without noughts on top. -/
import Derived.Test.YtddhhfhammmaaaaGreatRows
import Derived.Test.YtddhhfhammmaaaaGreatNatP
import Derived.WalkMore
import Derived.Deep.RegionHeld3
import Derived.Deep.RegionWith
set_option linter.unusedVariables false
set_option linter.unusedSimpArgs false
namespace Go.Proofs.YtddhhfhammmaaaaGreat
open Go.RowKit Go.Rt

theorem infoU64n : (Tryz.prog.info? 65).map (fun i => (i.zero, i.size, i.bytes)) = some (some (.int .u64 0), 1, 8) := by kernel_rfl
theorem infoU32n : (Tryz.prog.info? 111).map (fun i => (i.zero, i.size, i.bytes)) = some (some (.int .u32 0), 1, 4) := by kernel_rfl
theorem wf_u32_iff {x : Int} : (Lit.int .u32 x).wf = true ↔ 0 ≤ x ∧ x ≤ 4294967295 := by
  simp [Lit.wf, IntKind.min, IntKind.max, IntKind.signed, IntKind.bits]
theorem rng64 {w : World} {hi : Nat} {a : Option Addr} {xs : List Int} (h : Ints .u64 w hi a xs) : Rng 18446744073709551616 xs := fun x hx => by have := wf_u64_iff.1 (h.wf x hx); omega
theorem rng32 {w : World} {hi : Nat} {a : Option Addr} {xs : List Int} (h : Ints .u32 w hi a xs) : Rng 4294967296 xs := fun x hx => by have := wf_u32_iff.1 (h.wf x hx); omega
theorem intsTakeN {k : IntKind} {w : World} {hi : Nat} {a : Option Addr} {xs : List Int} (h : Ints k w hi a xs) (j : Nat) : Ints k w hi a (xs.take j) :=
  ⟨by have := h.len; simp; omega, fun x hx => h.wf x (List.mem_of_mem_take hx), fun i hi' => by
    have hl : i < xs.length ∧ i < j := by simp at hi'; omega
    obtain ⟨b, off, ha, hlt, hc⟩ := h.cell i hl.1
    refine ⟨b, off, ha, hlt, ?_⟩
    rw [hc, List.getElem?_take, if_pos hl.2]⟩
/-- What is left is the beginning of the list. -/
theorem dig_is_take {B : Nat} (hB : 2 ≤ B) : ∀ {xs : List Int}, Rng B xs → dig B (valB B xs) = xs.take (dig B (valB B xs)).length := by
  intro xs
  induction xs with
  | nil => intro _; rfl
  | cons x r ih =>
    intro hr
    have hx := hr x (by simp)
    have hrr : Rng B r := fun y hy => hr y (by simp [hy])
    by_cases h0 : valB B (x :: r) = 0
    · rw [h0, dig_zero]; rfl
    · rw [dig_pos hB h0]
      have e1 : valB B (x :: r) % B = x.toNat := by rw [valB, Nat.add_mul_mod_self_left, Nat.mod_eq_of_lt (by omega)]
      have e2 : valB B (x :: r) / B = valB B r := by rw [valB, Nat.add_mul_div_left _ _ (by omega), Nat.div_eq_of_lt (by omega), Nat.zero_add]
      rw [e1, e2, List.length_cons, List.take_succ_cons, ← ih hrr]
      congr 1
      omega

set_option maxHeartbeats 1000000 in
theorem ntrim_any (a : Option Addr) (c hi : Nat) (xs : List Int) (w : World) (h : Ints .u64 w hi a xs) (hc1 : xs.length ≤ c) (hc2 : c ≤ 9223372036854775807) :
    Calls Tryz.prog 60 #[.slice a xs.length c] w fun e w' => e = .returned (.slice a (dig 18446744073709551616 (valB 18446744073709551616 xs)).length c) ∧ w = w' := by
  have hr := Lib.hid (rng64 h)
  obtain ⟨hm, _, hc⟩ := h
  go_enter Tryz.func60, Tryz.ntmps60
  go_wp2
  go_loopw [3] (fun i wr => ∃ k : Nat, k ≤ xs.length ∧ i = .int .i64 k ∧ Hid (∀ j, k ≤ j → xs[j]?.getD 0 = 0) ∧ wr = w) (fun i _ => (intOf i).toNat)
  case atStart => exact ⟨xs.length, Nat.le_refl _, rfl, Lib.hid (fun j hj => by rw [List.getElem?_eq_none hj]; rfl), rfl⟩
  case round =>
    obtain ⟨k, hk, rfl, HZ, rfl⟩ := hrel
    by_cases h0 : k = 0
    · subst h0
      have hd : xs.take 0 = dig 18446744073709551616 (valB 18446744073709551616 xs) := trim_dig (by decide) hr.out (Nat.zero_le _) HZ.out (.inl rfl)
      have hl : (dig 18446744073709551616 (valB 18446744073709551616 xs)).length = 0 := by rw [← hd]; simp
      have HL := Lib.hid hl
      clear hc hd hl
      go_wp2
      go_ret
      exact ⟨by rw [HL.out]; rfl, rfl⟩
    · obtain ⟨b, off, rfl, hlb, hcell⟩ := hc (k - 1) (by omega)
      clear hc
      have hk1 : (0 : Int) < (k : Int) := by omega
      have ew : IntKind.i64.wrap ((k : Int) - 1) = ((k - 1 : Nat) : Int) := by rw [IntWalk.i64_left]; unfold RowKit.wrap64; omega
      have ew2 : RowKit.wrap64 ((k : Int) - 1) = ((k - 1 : Nat) : Int) := by unfold RowKit.wrap64; omega
      have hb1 : k - 1 < xs.length := by omega
      by_cases hx : xs[k - 1]?.getD 0 = 0
      · have HZ2 : Hid (∀ j, k - 1 ≤ j → xs[j]?.getD 0 = 0) := Lib.hid (fun j hj => by
          by_cases he : j = k - 1
          · rw [he]; exact hx
          · exact HZ.out j (by omega))
        rw [hx] at hcell
        go_wp2
        go_roundw
        case rel => exact ⟨k - 1, by omega, by first | rfl | go_num, HZ2, trivial⟩
        case measure => simp [intOf]; omega
      · have hd : xs.take k = dig 18446744073709551616 (valB 18446744073709551616 xs) := trim_dig (by decide) hr.out hk HZ.out (.inr hx)
        have hl : (dig 18446744073709551616 (valB 18446744073709551616 xs)).length = k := by rw [← hd]; simp; omega
        have HL := Lib.hid hl
        have e5 : (xs[k - 1]?.getD 0 == 0) = false := by simp; exact hx
        generalize xs[k - 1]?.getD 0 = x at hcell e5
        clear hx hd hl
        go_wp2
        go_ret
        exact ⟨by rw [HL.out]; rfl, rfl⟩
set_option maxHeartbeats 1000000 in
theorem cut_any (a : Option Addr) (c hi : Nat) (xs : List Int) (w : World) (h : Ints .u32 w hi a xs) (hc1 : xs.length ≤ c) (hc2 : c ≤ 9223372036854775807) :
    Calls Tryz.prog 78 #[.slice a xs.length c] w fun e w' => e = .returned (.slice a (dig 4294967296 (valB 4294967296 xs)).length c) ∧ w = w' := by
  have hr := Lib.hid (rng32 h)
  obtain ⟨hm, _, hc⟩ := h
  go_enter Tryz.func78, Tryz.ntmps78
  go_wp2
  go_loopw [3] (fun i wr => ∃ k : Nat, k ≤ xs.length ∧ i = .int .i64 k ∧ Hid (∀ j, k ≤ j → xs[j]?.getD 0 = 0) ∧ wr = w) (fun i _ => (intOf i).toNat)
  case atStart => exact ⟨xs.length, Nat.le_refl _, rfl, Lib.hid (fun j hj => by rw [List.getElem?_eq_none hj]; rfl), rfl⟩
  case round =>
    obtain ⟨k, hk, rfl, HZ, rfl⟩ := hrel
    by_cases h0 : k = 0
    · subst h0
      have hd : xs.take 0 = dig 4294967296 (valB 4294967296 xs) := trim_dig (by decide) hr.out (Nat.zero_le _) HZ.out (.inl rfl)
      have hl : (dig 4294967296 (valB 4294967296 xs)).length = 0 := by rw [← hd]; simp
      have HL := Lib.hid hl
      clear hc hd hl
      go_wp2
      go_ret
      exact ⟨by rw [HL.out]; rfl, rfl⟩
    · obtain ⟨b, off, rfl, hlb, hcell⟩ := hc (k - 1) (by omega)
      clear hc
      have hk1 : (0 : Int) < (k : Int) := by omega
      have ew : IntKind.i64.wrap ((k : Int) - 1) = ((k - 1 : Nat) : Int) := by rw [IntWalk.i64_left]; unfold RowKit.wrap64; omega
      have ew2 : RowKit.wrap64 ((k : Int) - 1) = ((k - 1 : Nat) : Int) := by unfold RowKit.wrap64; omega
      have hb1 : k - 1 < xs.length := by omega
      by_cases hx : xs[k - 1]?.getD 0 = 0
      · have HZ2 : Hid (∀ j, k - 1 ≤ j → xs[j]?.getD 0 = 0) := Lib.hid (fun j hj => by
          by_cases he : j = k - 1
          · rw [he]; exact hx
          · exact HZ.out j (by omega))
        rw [hx] at hcell
        go_wp2
        go_roundw
        case rel => exact ⟨k - 1, by omega, by first | rfl | go_num, HZ2, trivial⟩
        case measure => simp [intOf]; omega
      · have hd : xs.take k = dig 4294967296 (valB 4294967296 xs) := trim_dig (by decide) hr.out hk HZ.out (.inr hx)
        have hl : (dig 4294967296 (valB 4294967296 xs)).length = k := by rw [← hd]; simp; omega
        have HL := Lib.hid hl
        have e5 : (xs[k - 1]?.getD 0 == 0) = false := by simp; exact hx
        generalize xs[k - 1]?.getD 0 = x at hcell e5
        clear hx hd hl
        go_wp2
        go_ret
        exact ⟨by rw [HL.out]; rfl, rfl⟩

/-- A number in memory, by its limbs; by digits of 32 bits. -/
structure NAt (w : World) (hi : Nat) (a : Option Addr) (c m : Nat) : Prop where
  li : Ints .u64 w hi a (dig 18446744073709551616 m)
  c1 : (dig 18446744073709551616 m).length ≤ c
  c2 : c ≤ 9223372036854775807
structure HAt (w : World) (hi : Nat) (a : Option Addr) (c m : Nat) : Prop where
  li : Ints .u32 w hi a (dig 4294967296 m)
  c1 : (dig 4294967296 m).length ≤ c
  c2 : c ≤ 9223372036854775807
theorem NAt.below {w w' : World} {hi B : Nat} {a : Option Addr} {c m : Nat} (h : NAt w hi a c m) (hb : Below B w w') (hB : hi ≤ B) : NAt w' hi a c m := ⟨h.li.below hb hB, h.c1, h.c2⟩
theorem NAt.mono {w : World} {hi hi' : Nat} {a : Option Addr} {c m : Nat} (h : NAt w hi a c m) (hh : hi ≤ hi') : NAt w hi' a c m := ⟨h.li.mono hh, h.c1, h.c2⟩
theorem NAt.next {w w' : World} {a : Option Addr} {c m : Nat} (h : NAt w w.heap.size a c m) (hb : Below w.heap.size w w') : NAt w' w'.heap.size a c m := (h.below hb (Nat.le_refl _)).mono hb.size
theorem HAt.below {w w' : World} {hi B : Nat} {a : Option Addr} {c m : Nat} (h : HAt w hi a c m) (hb : Below B w w') (hB : hi ≤ B) : HAt w' hi a c m := ⟨h.li.below hb hB, h.c1, h.c2⟩
theorem HAt.mono {w : World} {hi hi' : Nat} {a : Option Addr} {c m : Nat} (h : HAt w hi a c m) (hh : hi ≤ hi') : HAt w hi' a c m := ⟨h.li.mono hh, h.c1, h.c2⟩
theorem HAt.next {w w' : World} {a : Option Addr} {c m : Nat} (h : HAt w w.heap.size a c m) (hb : Below w.heap.size w w') : HAt w' w'.heap.size a c m := (h.below hb (Nat.le_refl _)).mono hb.size
/-- A number handed back. -/
def RetN (w : World) (m : Nat) (e : Ending) (w' : World) : Prop :=
  ∃ a c, e = .returned (.slice a (dig 18446744073709551616 m).length c) ∧ NAt w' w'.heap.size a c m ∧ Below w.heap.size w w'
def RetH (w : World) (m : Nat) (e : Ending) (w' : World) : Prop :=
  ∃ a c, e = .returned (.slice a (dig 4294967296 m).length c) ∧ HAt w' w'.heap.size a c m ∧ Below w.heap.size w w'
theorem nat_zero (w : World) (hi : Nat) : NAt w hi none 0 0 := ⟨Ints.nil _ _ _ _, Nat.le_refl _, by decide⟩
/-- A row of one's own, trimmed. -/
theorem nat_of_ints {w : World} {hi : Nat} {a : Option Addr} {c : Nat} {xs : List Int} (h : Ints .u64 w hi a xs) (hc : xs.length ≤ c ∧ c ≤ 9223372036854775807) : NAt w hi a c (valB 18446744073709551616 xs) := by
  have e := dig_is_take (B := 18446744073709551616) (by decide) (rng64 h)
  have hl : (dig 18446744073709551616 (valB 18446744073709551616 xs)).length ≤ xs.length := by rw [e]; simp; omega
  refine ⟨?_, by omega, hc.2⟩
  rw [e]
  exact intsTakeN h _
theorem dig_of_ints {w : World} {hi : Nat} {a : Option Addr} {c : Nat} {xs : List Int} (h : Ints .u32 w hi a xs) (hc : xs.length ≤ c ∧ c ≤ 9223372036854775807) : HAt w hi a c (valB 4294967296 xs) := by
  have e := dig_is_take (B := 4294967296) (by decide) (rng32 h)
  have hl : (dig 4294967296 (valB 4294967296 xs)).length ≤ xs.length := by rw [e]; simp; omega
  refine ⟨?_, by omega, hc.2⟩
  rw [e]
  exact intsTakeN h _
end Go.Proofs.YtddhhfhammmaaaaGreat
