/- Walks of the references' whole numbers: limbs of digits. -/
import Derived.Test.YtimjhjacinchjaaGreatN2
import Derived.WalkMore
import Derived.Deep.RegionHeld3
import Derived.Deep.RegionWith
import Derived.BigRegion
import Derived.Deep.Cut
import Derived.Deep.CutBlock
import Derived.Deep.CutRange
set_option linter.unusedVariables false
set_option linter.unusedSimpArgs false
namespace Go.Proofs.YtimjhjacinchjaaGreat
open Go.RowKit Go.Rt

/-- Limbs of digits. -/
def pairL : List Int → List Int
  | [] => []
  | [x] => [x]
  | x :: y :: r => (x + y * 4294967296) :: pairL r
theorem pairL_append : ∀ (k : Nat) (xs ys : List Int), xs.length = 2 * k → pairL (xs ++ ys) = pairL xs ++ pairL ys
  | 0, [], ys, _ => rfl
  | k + 1, x :: y :: r, ys, h => by
    have hr : r.length = 2 * k := by simp at h; omega
    rw [List.cons_append, List.cons_append, pairL, pairL, pairL_append k r ys hr, List.cons_append]
theorem pairL_two (xs : List Int) (k : Nat) (h : 2 * k + 1 < xs.length) : pairL (xs.take (2 * k + 2)) = pairL (xs.take (2 * k)) ++ [xs[2 * k]?.getD 0 + xs[2 * k + 1]?.getD 0 * 4294967296] := by
  have e : xs.take (2 * k + 2) = xs.take (2 * k) ++ [xs[2 * k], xs[2 * k + 1]] := by
    have e1 := List.take_succ_eq_append_getElem h
    have e2 := List.take_succ_eq_append_getElem (show 2 * k < xs.length by omega)
    rw [e2, List.append_assoc] at e1
    exact e1
  rw [e, pairL_append k _ _ (by simp; omega), List.getElem?_eq_getElem h, List.getElem?_eq_getElem (show 2 * k < xs.length by omega)]
  rfl
theorem pairL_one (xs : List Int) (k : Nat) (h : 2 * k < xs.length) (h2 : xs.length ≤ 2 * k + 1) : pairL (xs.take (2 * k + 2)) = pairL (xs.take (2 * k)) ++ [xs[2 * k]?.getD 0] := by
  have e : xs.take (2 * k + 2) = xs.take (2 * k) ++ [xs[2 * k]] := by
    rw [List.take_of_length_le (by omega)]
    have := List.take_succ_eq_append_getElem h
    rw [List.take_of_length_le (by omega)] at this
    exact this
  rw [e, pairL_append k _ _ (by simp; omega), List.getElem?_eq_getElem h]
  rfl
theorem pairL_rng : ∀ {xs : List Int}, Rng 4294967296 xs → Rng 18446744073709551616 (pairL xs)
  | [], _ => fun x hx => by cases hx
  | [x], h => fun y hy => by
    have := h x (by simp)
    simp [pairL] at hy
    subst hy
    omega
  | x :: y :: r, h => fun z hz => by
    have h1 := h x (by simp)
    have h2 := h y (by simp)
    rw [pairL] at hz
    rcases List.mem_cons.1 hz with rfl | hz
    · omega
    · exact pairL_rng (xs := r) (fun q hq => h q (by simp [hq])) z hz
theorem pairL_val : ∀ {xs : List Int}, Rng 4294967296 xs → valB 18446744073709551616 (pairL xs) = valB 4294967296 xs
  | [], _ => rfl
  | [x], h => by simp [pairL, valB]
  | x :: y :: r, h => by
    have h1 := h x (by simp)
    have h2 := h y (by simp)
    have ih := pairL_val (xs := r) (fun q hq => h q (by simp [hq]))
    rw [pairL, valB, valB, valB, ih]
    omega
theorem pairL_len : ∀ (xs : List Int), 2 * (pairL xs).length ≤ xs.length + 1
  | [] => by simp [pairL]
  | [x] => by simp [pairL]
  | x :: y :: r => by
    have := pairL_len r
    rw [pairL, List.length_cons, List.length_cons, List.length_cons]
    omega

theorem u64_same (n : Int) (h0 : 0 ≤ n) (h1 : n < 2 ^ 64) : IntKind.u64.wrap n = n := by
  simp [IntKind.wrap, IntKind.bits, IntKind.signed]
  omega
theorem or_turn (x y : Int) (hx : 0 ≤ x ∧ x < 18446744073709551616) (hy : 0 ≤ y ∧ y < 18446744073709551616) : bits BinOp.or IntKind.u64 x y = bits BinOp.or IntKind.u64 y x := by
  obtain ⟨a, rfl⟩ := Int.eq_ofNat_of_zero_le hx.1
  obtain ⟨b, rfl⟩ := Int.eq_ofNat_of_zero_le hy.1
  have ha : a < 2 ^ 64 := by omega
  have hb : b < 2 ^ 64 := by omega
  rw [(bits_nat IntKind.u64 64 (by decide) u64_same a b ha hb).2, (bits_nat IntKind.u64 64 (by decide) u64_same b a hb ha).2, Nat.or_comm]
theorem or_digits (x y : Int) (hx : 0 ≤ x ∧ x < (4294967296 : Nat)) (hy : 0 ≤ y ∧ y < (4294967296 : Nat)) : bits BinOp.or IntKind.u64 x (y * 4294967296) = x + y * 4294967296 := by
  rw [or_turn x (y * 4294967296) (by omega) (by omega), bits_join IntKind.u64 64 (by decide) u64_same 32 (y * 4294967296) x (by omega) (by omega) (by omega) hx.1 (by omega) (by omega)]
  omega
/-- A slice of memory that is no older than B. -/
def Fresh (B : Nat) (a : Option Addr) : Prop := ∀ x, a = some x → B ≤ x.block
theorem fresh_none (B : Nat) : Fresh B none := fun x h => by cases h
theorem Fresh.mono {B B' : Nat} {a : Option Addr} (h : Fresh B a) (hb : B' ≤ B) : Fresh B' a := fun x hx => Nat.le_trans hb (h x hx)
theorem own_fresh {w : World} {base : Nat} {e : TypeId} {size n c : Nat} {a : Option Addr} {xs : List Value} (h : w.ownsRow base e size (.slice a n c) n xs) : Fresh base a := by
  rcases h.2 with ⟨h1, _⟩ | ⟨g, cap, cur, h1, hb, _⟩
  · injection h1 with e1
    subst e1
    exact fresh_none _
  · injection h1 with e1
    subst e1
    intro x hx
    injection hx with hx
    subst hx
    exact hb
/-- A number handed back, in new memory. -/
def RetNF (w : World) (m : Nat) (e : Ending) (w' : World) : Prop :=
  ∃ a c, e = .returned (.slice a (dig 18446744073709551616 m).length c) ∧ NAt w' w'.heap.size a c m ∧ Below w.heap.size w w' ∧ Fresh w.heap.size a
theorem RetNF.ret {w : World} {m : Nat} {e : Ending} {w' : World} (h : RetNF w m e w') : RetN w m e w' := by
  obtain ⟨a, c, h1, h2, h3, _⟩ := h
  exact ⟨a, c, h1, h2, h3⟩
set_option maxHeartbeats 2000000 in
set_option maxRecDepth 100000 in
theorem nwholeX_any (a : Option Addr) (c hi : Nat) (xs : List Int) (w : World) (h : Ints .u32 w hi a xs) (hhi : hi ≤ w.heap.size) (hn : xs.length ≤ 1000000000) :
    Calls Tryz.prog 73 #[.slice a xs.length c] w (RetNF w (valB 4294967296 xs)) := by
  replace h := h.mono hhi
  have hr := Lib.hid (rng32 h)
  obtain ⟨hm, _, hc⟩ := h
  go_enter Tryz.func73, Tryz.ntmps73
  go_wp2
  go_loopw [3, 4] (fun v i wr => ∃ j k : Nat, Hid (j = 2 * k) ∧ j ≤ xs.length + 1 ∧ i = .int .i64 j ∧ wr.ownsRow w.heap.size 79 1 v k ((pairL (xs.take j)).map (Value.int .u64)) ∧ Below w.heap.size w wr) (fun _ i _ => xs.length + 1 - (intOf i).toNat)
  case atStart => exact ⟨0, 0, Lib.hid rfl, Nat.zero_le _, rfl, World.ownsRow_nil _ _ _ _, Below.refl _ _⟩
  case round =>
    obtain ⟨j, k, HJ, hj, rfl, hown, hbel⟩ := hrel
    obtain ⟨wi, rfl⟩ : ∃ wi : World, wi = wr := ⟨_, rfl⟩
    by_cases hlt : j < xs.length
    · obtain ⟨b, off, rfl, hlb, hcell⟩ := hc j hlt
      have hrx := hr.out.getD (by decide) j
      have hcr : wi.cell? ⟨b, off + j, none⟩ = some (.int .u32 (xs[j]?.getD 0)) := (hbel.cell (p := ⟨b, off + j, none⟩) hlb).trans hcell
      have hk3 := own_len hown
      have hk2 : k ≤ 1000000000 := by have := HJ.out; omega
      have HO := Lib.hid hown
      have HB := Lib.hid hbel
      have hsz := hbel.size
      have ej : RowKit.wrap64 ((j : Int) + 1) = (j : Int) + 1 := IntWalk.wrap64_in _ ⟨by omega, by omega⟩
      by_cases hl2 : j + 1 < xs.length
      · obtain ⟨b2, off2, e2, hlb2, hcell2⟩ := hc (j + 1) hl2
        cases e2
        have hry := hr.out.getD (by decide) (j + 1)
        have hcr2 : wi.cell? ⟨b, off + (j + 1), none⟩ = some (.int .u32 (xs[j + 1]?.getD 0)) := (hbel.cell (p := ⟨b, off + (j + 1), none⟩) hlb2).trans hcell2
        have hT : pairL (xs.take (j + 2)) = pairL (xs.take j) ++ [xs[j]?.getD 0 + xs[j + 1]?.getD 0 * 4294967296] := by rw [HJ.out]; exact pairL_two xs k (by have := HJ.out; omega)
        have HT := Lib.hid hT
        have hl3 : (j : Int) + 1 < (xs.length : Int) := by omega
        clear hT hc hown hbel hcell hcell2
        generalize xs[j]?.getD 0 = x at *
        generalize xs[j + 1]?.getD 0 = y at *
        have e9 : bits BinOp.or IntKind.u64 x (y * 4294967296) = x + y * 4294967296 := or_digits x y hrx hry
        go_upto_region 8 with fail
        go_wp2_with (at_builtin; (refine wpl_append1b 69 79 .u64 8 (by decide) infoU64n Tryz.underlying69 w.heap.size _ k (pairL (xs.take j)) (x + y * 4294967296) _ _ _ rfl rfl rfl HO.out rfl (by omega) hsz ?_); intro v' w1 hown1 hbel1 _)
        have HO1 := Lib.hid hown1
        have HB1 := Lib.hid (hbel1 _ _ (Nat.le_refl _) HB.out)
        clear hown1 hbel1
        go_roundw
        case rel => exact ⟨j + 2, k + 1, Lib.hid (by have := HJ.out; omega), by omega, by go_num, by rw [HT.out]; exact HO1.out, HB1.out⟩
        case measure => simp [intOf]; omega
      · have hT : pairL (xs.take (j + 2)) = pairL (xs.take j) ++ [xs[j]?.getD 0] := by rw [HJ.out]; exact pairL_one xs k (by have := HJ.out; omega) (by have := HJ.out; omega)
        have HT := Lib.hid hT
        have hl3 : ¬ (j : Int) + 1 < (xs.length : Int) := by omega
        clear hT hc hown hbel hcell
        generalize xs[j]?.getD 0 = x at *
        go_wp2_with (at_builtin; (refine wpl_append1b 69 79 .u64 8 (by decide) infoU64n Tryz.underlying69 w.heap.size _ k (pairL (xs.take j)) x _ _ _ rfl rfl rfl HO.out rfl (by omega) hsz ?_); intro v' w1 hown1 hbel1 _)
        have HO1 := Lib.hid hown1
        have HB1 := Lib.hid (hbel1 _ _ (Nat.le_refl _) HB.out)
        clear hown1 hbel1
        go_roundw
        case rel => exact ⟨j + 2, k + 1, Lib.hid (by have := HJ.out; omega), by omega, by go_num, by rw [HT.out]; exact HO1.out, HB1.out⟩
        case measure => simp [intOf]; omega
    · have ht : xs.take j = xs := List.take_of_length_le (by omega)
      rw [ht] at hown
      have hk3 := own_len hown
      skip
      obtain ⟨a1, xsl, he, hI⟩ := own_ints hown (fun x hx => by have := pairL_rng hr.out x hx; exact wf_u64_iff.2 ⟨by omega, by omega⟩)
      subst he
      have hkl : k = (pairL xs).length := by have := own_len hown; simpa using this.symm
      skip
      rw [hkl] at hown
      have hcap := own_cap1 hown
      have hfr := Lib.hid (own_fresh hown)
      have HI := Lib.hid hI
      have HB := Lib.hid hbel
      have HV := Lib.hid (pairL_val hr.out)
      have hpl := pairL_len xs
      have HC := Lib.hid (ntrim_any a1 xsl wi.heap.size (pairL xs) wi hI (by omega) (by omega))
      clear hown hI hbel hc hkl ht hk3
      go_wp2_with (go_at_call 60; refine HC.out.mono ?_; rintro e w2 ⟨rfl, rfl⟩)
      go_ret
      refine ⟨a1, xsl, by rw [← HV.out]; rfl, ?_, HB.out, hfr.out⟩
      rw [← HV.out]
      exact nat_of_ints HI.out ⟨hcap.1, hcap.2⟩
theorem halves_any (a : Option Addr) (c m : Nat) (w : World) (h : NAt w w.heap.size a c m) (hn : (dig 18446744073709551616 m).length ≤ 1000000000) :
    Calls Tryz.prog 71 #[.slice a (dig 18446744073709551616 m).length c] w (RetH w m) := by
  have h2 := halvesX_any a c _ w h.li hn
  rwa [val_dig (by decide)] at h2
theorem nwholeF_any (a : Option Addr) (c m : Nat) (w : World) (h : HAt w w.heap.size a c m) (hn : (dig 4294967296 m).length ≤ 1000000000) :
    Calls Tryz.prog 73 #[.slice a (dig 4294967296 m).length c] w (RetNF w m) := by
  have h2 := nwholeX_any a c _ _ w h.li (Nat.le_refl _) hn
  rwa [val_dig (by decide)] at h2
theorem nwhole_any (a : Option Addr) (c m : Nat) (w : World) (h : HAt w w.heap.size a c m) (hn : (dig 4294967296 m).length ≤ 1000000000) :
    Calls Tryz.prog 73 #[.slice a (dig 4294967296 m).length c] w (RetN w m) := (nwholeF_any a c m w h hn).mono fun _ _ => RetNF.ret
theorem nof_any (x : Int) (hx : 0 ≤ x ∧ x < 18446744073709551616) (w : World) : Calls Tryz.prog 41 #[.int .u64 x] w (RetN w x.toNat) := by
  have hI : Ints .u64 (w.alloc (.cells #[.int .u64 x] 79)) (w.alloc (.cells #[.int .u64 x] 79)).heap.size (some ⟨w.heap.size, 0, none⟩) [x] :=
    ⟨by simp, by simp; exact wf_u64_iff.2 ⟨by omega, by omega⟩, fun i hi => by
      match i, hi with
      | 0, _ => exact ⟨w.heap.size, 0, rfl, by simp, by simp [go_sem]⟩⟩
  have HI := Lib.hid hI
  have HC := Lib.hid (ntrim_any _ 1 _ [x] _ hI (by simp) (by decide))
  have hv : valB 18446744073709551616 [x] = x.toNat := by simp [valB]
  rw [hv] at HC
  clear hI
  go_enter Tryz.func41, Tryz.ntmps41
  go_wp2_with (go_at_call 60; refine HC.out.mono ?_; rintro e w2 ⟨rfl, rfl⟩)
  go_ret
  refine ⟨_, 1, rfl, ?_, (Below.refl _ _).alloc (Nat.le_refl _) _⟩
  rw [← hv]
  exact nat_of_ints HI.out (by simp)
end Go.Proofs.YtimjhjacinchjaaGreat
