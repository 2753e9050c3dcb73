/- Walks of the references' whole numbers: limbs by digits of 32 bits, and back. -/
import Derived.Test.YtddhhfhammmaaaaGreatN1
import Derived.Test.YtddhhfhammmaaaaGreatMTake
import Derived.BigRegion
import Derived.Deep.Cut
import Derived.Deep.CutBlock
import Derived.Deep.CutRange
import Derived.WalkMore
import Derived.Deep.RegionHeld3
import Derived.Deep.RegionWith
set_option linter.unusedVariables false
set_option linter.unusedSimpArgs false
namespace Go.Proofs.YtddhhfhammmaaaaGreat
open Go.RowKit Go.Rt

theorem wpl_append1b {P : Program} {w : World} {ops : Array Oper} {rest : List Oper} {o : Oper} {a : Act} {Q : Exit → Act → World → Prop} (T E : TypeId) (k : IntKind) (nb : Nat) (hnb : nb ≤ 8)
    (hinf : (P.info? E).map (fun i => (i.zero, i.size, i.bytes)) = some (some (.int k 0), 1, nb)) (hu : P.underlying T = some (.slice E))
    (base : Nat) (v : Value) (n : Nat) (xs : List Int) (y : Int) (cap : Nat) (s x : Operand) (hg : o.guard = none) (ho : o.op = .call { callee := .builtin .append, args := #[s, x], argTypes := #[T, T] })
    (hs : a.eval s = v) (hown : w.ownsRow base E 1 v n (xs.map (Value.int k))) (hx : a.eval x = .slice (some ⟨w.heap.size, 0, none⟩) 1 cap) (hn : n ≤ 17592186044415) (hb : base ≤ w.heap.size)
    (hK : ∀ v' w', w'.ownsRow base E 1 v' (n + 1) ((xs ++ [y]).map (Value.int k)) → (∀ B W0, B ≤ base → Below B W0 w → Below B W0 w') → w.grownBy w' v.ownBlock →
      wpList P ops Q rest (a.put o.dst v') w') : wpList P ops Q (o :: rest) a (w.alloc (.cells #[.int k y] E)) := by
  obtain ⟨i, hi, hz0, hz1, hz2⟩ := info_parts hinf
  refine wpList_append_own _ hg s x T ho base E i (.int k 0) 1 nb hu hi hz0 hz1 hz2 rfl (by decide) v n _ hs (hown.alloc _) ⟨w.heap.size, 0, none⟩ 1 cap [.int k y] hx rfl (cell_one_new _ _ _)
    (by simp [Value.oneCell']) (by unfold maxLen; omega) (Nat.le_trans (Nat.mul_le_mul (Nat.le_refl (n + 1)) hnb) (by omega)) (by simp; omega) ?_
  intro v' w' hown' hgrow _
  refine hK v' w' (by simpa using hown') (fun B W0 hB hbel => ?_) (grown_trans (World.grownBy_alloc w _ _) hgrow)
  have hlt := hown.lt
  refine (hbel.alloc (Nat.le_trans hB hb) _).grown hgrow (by simp; omega) (fun j hj => ?_)
  have := hlt j hj
  omega
/-- append of two numbers to a row of one's own, as one step of a region that draws. -/
theorem step_append2 {P : Program} {ops : Array Oper} {o : Oper} {a : Act} {w : World} {K : Act → World → Prop} {Q : Exit → Act → World → Prop} {E' : Prop} (T E : TypeId) (k : IntKind) (nb : Nat) (hnb : nb ≤ 8)
    (hinf : (P.info? E).map (fun i => (i.zero, i.size, i.bytes)) = some (some (.int k 0), 1, nb)) (hu : P.underlying T = some (.slice E))
    (base : Nat) (v : Value) (n : Nat) (xs : List Int) (y z : Int) (cap : Nat) (g : Nat) (s x : Operand) (dst : Option Tmp) (hd : o.dst = dst) (hg : o.guard = none) (ho : o.op = .call { callee := .builtin .append, args := #[s, x], argTypes := #[T, T] })
    (hs : a.eval s = v) (hown : w.ownsRow base E 1 v n (xs.map (Value.int k))) (hx : a.eval x = .slice (some ⟨g, 0, none⟩) 2 cap) (hc : w.cell? ⟨g, 0, none⟩ = some (.int k y)) (hc2 : w.cell? ⟨g, 1, none⟩ = some (.int k z)) (hn : n ≤ 17592186044414) (hb : base ≤ w.heap.size)
    (hK : ∀ v' w', w'.ownsRow base E 1 v' (n + 2) ((xs ++ [y, z]).map (Value.int k)) → (∀ B W0, B ≤ base → Below B W0 w → Below B W0 w') → K (a.put dst v') w') :
    if Region.wanted o (yielded ops a.tmps) = true then Oper.wp P o a w K Q else E' := by
  subst hd
  have hw : Region.wanted o (yielded ops a.tmps) = true := by simp [Region.wanted, hg]
  rw [if_pos hw]
  obtain ⟨i, hi, hz0, hz1, hz2⟩ := info_parts hinf
  refine wp_append_own w s x T ho base E i (.int k 0) 1 nb hu hi hz0 hz1 hz2 rfl (by decide) v n _ hs hown ⟨g, 0, none⟩ 2 cap [.int k y, .int k z] hx rfl (fun j u hj => ?_) (by simp [Value.oneCell']) (by unfold maxLen; omega) (Nat.le_trans (Nat.mul_le_mul (Nat.le_refl (n + 2)) hnb) (by omega)) hb ?_
  · match j, hj with
    | 0, hj => simp at hj; subst hj; exact hc
    | 1, hj => simp at hj; subst hj; exact hc2
  · intro v' w' hown' hgrow _
    refine hK v' w' (by simpa using hown') (fun B W0 hB hbel => ?_)
    have hlt := hown.lt
    refine hbel.grown hgrow (by have := hbel.size; omega) (fun j hj => ?_)
    have := hlt j hj
    omega

theorem own_cap1 {w : World} {base : Nat} {e : TypeId} {a : Option Addr} {n c : Nat} {xs : List Value} (h : w.ownsRow base e 1 (.slice a n c) n xs) : n ≤ c ∧ c ≤ 9223372036854775807 := by
  rcases h.2 with ⟨h1, h2⟩ | ⟨g, cap, cur, h1, _, _, h4, h5, _⟩
  · cases h1
    omega
  · cases h1
    unfold maxLen at h5
    omega
set_option maxHeartbeats 2000000 in
set_option maxRecDepth 100000 in
theorem halvesX_any (a : Option Addr) (c : Nat) (xs : List Int) (w : World) (h : Ints .u64 w w.heap.size a xs) (hn : xs.length ≤ 1000000000) :
    Calls Tryz.prog 76 #[.slice a xs.length c] w (RetH w (valB 18446744073709551616 xs)) := by
  have hr := Lib.hid (rng64 h)
  obtain ⟨hm, _, hc⟩ := h
  go_enter Tryz.func76, Tryz.ntmps76
  go_wp2
  go_loopw [3, 4] (fun v i wr => ∃ k : Nat, k ≤ xs.length ∧ i = .int .i64 k ∧ wr.ownsRow w.heap.size 111 1 v (2 * k) ((half2 (xs.take k)).map (Value.int .u32)) ∧ Below w.heap.size w wr) (fun _ i _ => xs.length - (intOf i).toNat)
  case atStart => exact ⟨0, Nat.zero_le _, rfl, World.ownsRow_nil _ _ _ _, Below.refl _ _⟩
  case round =>
    obtain ⟨k, hk, rfl, hown, hbel⟩ := hrel
    by_cases hlt : k < xs.length
    · obtain ⟨b, off, rfl, hlb, hcell⟩ := hc k hlt
      clear hc
      have hrx := hr.out _ (List.getElem_mem hlt)
      rw [List.getElem?_eq_getElem hlt] at hcell
      simp only [Option.getD_some] at hcell
      have hc0 := hcell
      have hcr : wr.cell? ⟨b, off + k, none⟩ = some (.int .u64 xs[k]) := (hbel.cell (p := ⟨b, off + k, none⟩) hlb).trans hcell
      have hT := half2_take xs k hlt
      have HT := Lib.hid hT
      clear hT
      have HO := Lib.hid hown
      have HB := Lib.hid hbel
      have hsz := hbel.size
      clear hown hbel hcell
      generalize xs[k] = x at *
      have hk0 : (0 : Int) ≤ (k : Int) := by omega
      have hk1 : (k : Int) < (xs.length : Int) := by omega
      obtain ⟨wi, rfl⟩ : ∃ wi : World, wi = wr := ⟨_, rfl⟩
      have hnw : ¬ b = wi.heap.size := by omega
      go_upto_region 5 with fail
      have e1 := IntKind.wrap_u32 x
      have e2 : IntKind.u32.wrap (x / 4294967296) = x / 4294967296 := by rw [IntKind.wrap_u32]; omega
      refine wp_region_held_drew (S := (fun w' => w'.cell? ⟨b, off + k, none⟩ = some (.int .u64 x))) (by kernel_rfl) (by go_keep) (fun hHeld => ?_)
      refine takeY (i := 0) (dst := (some 11)) (v := ?_) rfl rfl (by kernel_rfl) (by kernel_rfl) (by kernel_rfl) (fun _ _ _ h => h) (by rfl) ?hy1w0 (by assumption) ?rest1w0
      case hy1w0 => (intro w hSw; (try dsimp only at hSw); go_simp; (try with_reducible rfl))
      try simp only [Act.put, List.setIfInBounds_toArray, List.set_cons_zero, List.set_cons_succ]
      refine takeY (i := 1) (dst := (some 12)) (v := ?_) rfl rfl (by kernel_rfl) (by kernel_rfl) (by kernel_rfl) (fun _ _ _ h => h) (by rfl) ?hy1w1 (by assumption) ?rest1w1
      case hy1w1 => (intro w hSw; (try dsimp only at hSw); go_simp; (try with_reducible rfl))
      try simp only [Act.put, List.setIfInBounds_toArray, List.set_cons_zero, List.set_cons_succ]
      refine takeY (i := 2) (dst := (some 13)) (v := ?_) rfl rfl (by kernel_rfl) (by kernel_rfl) (by kernel_rfl) (fun _ _ _ h => h) (by rfl) ?hy1w2 (by assumption) ?rest1w2
      case hy1w2 => (intro w hSw; (try dsimp only at hSw); go_simp; (try with_reducible rfl))
      try simp only [Act.put, List.setIfInBounds_toArray, List.set_cons_zero, List.set_cons_succ]
      refine takeY (i := 3) (dst := (some 14)) (v := ?_) rfl rfl (by kernel_rfl) (by kernel_rfl) (by kernel_rfl) (fun _ _ _ h => h) (by rfl) ?hy1w3 (by assumption) ?rest1w3
      case hy1w3 => (intro w hSw; (try dsimp only at hSw); go_simp; (try with_reducible rfl))
      try simp only [Act.put, List.setIfInBounds_toArray, List.set_cons_zero, List.set_cons_succ]
      refine takeY (i := 4) (dst := (some 15)) (v := ?_) rfl rfl (by kernel_rfl) (by kernel_rfl) (by kernel_rfl) (fun _ _ _ h => h) (by rfl) ?hy1w4 (by assumption) ?rest1w4
      case hy1w4 => (intro w hSw; (try dsimp only at hSw); go_simp; (try with_reducible rfl))
      try simp only [Act.put, List.setIfInBounds_toArray, List.set_cons_zero, List.set_cons_succ]
      refine takeY (i := 5) (dst := (some 16)) (v := ?_) rfl rfl (by kernel_rfl) (by kernel_rfl) (by kernel_rfl) (fun _ _ _ h => h) (by rfl) ?hy1w5 (by assumption) ?rest1w5
      case hy1w5 => (intro w hSw; (try dsimp only at hSw); go_simp; (try with_reducible rfl))
      try simp only [Act.put, List.setIfInBounds_toArray, List.set_cons_zero, List.set_cons_succ]
      refine takeY (i := 6) (dst := (some 17)) (v := ?_) rfl rfl (by kernel_rfl) (by kernel_rfl) (by kernel_rfl) (fun _ _ _ h => h) (by rfl) ?hy1w6 (by assumption) ?rest1w6
      case hy1w6 => (intro w hSw; (try dsimp only at hSw); go_simp; (try with_reducible rfl))
      try simp only [Act.put, List.setIfInBounds_toArray, List.set_cons_zero, List.set_cons_succ]
      refine takeY (i := 7) (dst := (some 18)) (v := ?_) rfl rfl (by kernel_rfl) (by kernel_rfl) (by kernel_rfl) (fun _ _ _ h => h) (by rfl) ?hy1w7 (by assumption) ?rest1w7
      case hy1w7 => (intro w hSw; (try dsimp only at hSw); go_simp; (try with_reducible rfl))
      try simp only [Act.put, List.setIfInBounds_toArray, List.set_cons_zero, List.set_cons_succ]
      refine takeY (i := 8) (dst := (some 19)) (v := ?_) rfl rfl (by kernel_rfl) (by kernel_rfl) (by kernel_rfl) (fun _ _ _ h => h) (by rfl) ?hy1w8 (by assumption) ?rest1w8
      case hy1w8 => (intro w hSw; (try dsimp only at hSw); go_simp; (try with_reducible rfl))
      try simp only [Act.put, List.setIfInBounds_toArray, List.set_cons_zero, List.set_cons_succ]
      refine takeY (i := 9) (dst := (some 20)) (v := ?_) rfl rfl (by kernel_rfl) (by kernel_rfl) (by kernel_rfl) (fun _ _ _ h => h) (by rfl) ?hy1w9 (by assumption) ?rest1w9
      case hy1w9 => (intro w hSw; (try dsimp only at hSw); go_simp; (try with_reducible rfl))
      try simp only [Act.put, List.setIfInBounds_toArray, List.set_cons_zero, List.set_cons_succ]
      refine takeY (i := 10) (dst := (some 21)) (v := ?_) rfl rfl (by kernel_rfl) (by kernel_rfl) (by kernel_rfl) (fun _ _ _ h => h) (by rfl) ?hy1w10 (by assumption) ?rest1w10
      case hy1w10 => (intro w hSw; (try dsimp only at hSw); go_simp; (try with_reducible rfl))
      try simp only [Act.put, List.setIfInBounds_toArray, List.set_cons_zero, List.set_cons_succ]
      refine takeY (i := 11) (dst := (some 22)) (v := ?_) rfl rfl (by kernel_rfl) (by kernel_rfl) (by kernel_rfl) (fun _ _ _ h => h) (by rfl) ?hy1w11 (by assumption) ?rest1w11
      case hy1w11 => (intro w hSw; (try dsimp only at hSw); go_simp; (try with_reducible rfl))
      try simp only [Act.put, List.setIfInBounds_toArray, List.set_cons_zero, List.set_cons_succ]
      refine wpAnyH_ready (rs := [12]) (by kernel_rfl) (by simp) (AllReadyH.cons rfl (fun K hK => ?_) AllReadyH.nil)
      go_simp
      skip
      (try go_wp2_with fail)
      refine hK.out _ _ (by go_keep) (fun hHeld => ?_)
      clear hK K
      try simp only [Act.put, List.setIfInBounds_toArray, List.set_cons_zero, List.set_cons_succ]
      refine wpAnyH_ready (rs := [13]) (by kernel_rfl) (by simp) (AllReadyH.cons rfl (fun K hK => ?_) AllReadyH.nil)
      refine step_append2 109 111 .u32 4 (by decide) infoU32n Tryz.underlying109 w.heap.size u3 (2 * k) (half2 (xs.take k)) (x % 4294967296) (x / 4294967296) 2 wi.heap.size (.tmp 11) (.tmp 23) (some 24) rfl rfl rfl ?_ ?_ ?_ ?_ ?_ (by omega) (by simp; omega) ?_
      focus (simp [Act.eval, Act.put]; done)
      focus (exact HO.out.alloc _)
      focus (simp [Act.eval, Act.put]; done)
      focus (simp [go_sem]; done)
      focus (simp [go_sem]; done)
      intro v' w2 hown2 hbel2
      have HB2 := Lib.hid (hbel2 w.heap.size w (Nat.le_refl _) (Below.drew (HB.out.alloc hsz _)))
      have HO2 := Lib.hid hown2
      clear hown2 hbel2
      refine hK.out _ _ ((HB2.out.cell (p := ⟨b, off + k, none⟩) hlb).trans hc0) (fun hHeld => ?_)
      clear hK K
      try simp only [Act.put, List.setIfInBounds_toArray, List.set_cons_zero, List.set_cons_succ]
      refine takeY (i := 14) (dst := (some 3)) (v := ?_) rfl rfl (by kernel_rfl) (by kernel_rfl) (by kernel_rfl) (fun _ _ _ h => h) (by rfl) ?hy1w14 (by assumption) ?rest1w14
      case hy1w14 => (intro w hSw; (try dsimp only at hSw); go_simp; (try with_reducible rfl))
      try simp only [Act.put, List.setIfInBounds_toArray, List.set_cons_zero, List.set_cons_succ]
      refine wpAnyH_done (by kernel_rfl) ?_ _
      go_wp2
      go_roundw
      case rel => exact ⟨k + 1, by omega, by go_num, by rw [HT.out, show 2 * (k + 1) = 2 * k + 2 by omega]; exact HO2.out, HB2.out⟩
      case measure => simp [intOf]; omega
    · have hke : k = xs.length := by omega
      subst hke
      rw [List.take_length, ← half2_len xs] at hown
      clear hc
      obtain ⟨a1, xsl, he, hI⟩ := own_ints hown (fun x hx => by have := half2_rng hr.out x hx; exact wf_u32_iff.2 ⟨by omega, by omega⟩)
      subst he
      have hcap := own_cap1 hown
      have HI := Lib.hid hI
      have HB := Lib.hid hbel
      have HV := Lib.hid (half2_val hr.out)
      have hl2 := half2_len xs
      have HC := Lib.hid (cut_any a1 xsl wr.heap.size (half2 xs) wr hI (by omega) (by omega))
      have HL := Lib.hid hl2
      clear hown hI hbel hl2
      go_wp2_with (go_at_call 78; refine HC.out.mono ?_; rintro e w2 ⟨rfl, rfl⟩)
      go_ret
      refine ⟨a1, xsl, by rw [← HV.out]; rfl, ?_, HB.out⟩
      rw [← HV.out]
      exact dig_of_ints HI.out ⟨hcap.1, hcap.2⟩
end Go.Proofs.YtddhhfhammmaaaaGreat
/- Walks of the references' whole numbers: limbs of digits. -/
set_option linter.unusedVariables false
set_option linter.unusedSimpArgs false
namespace Go.Proofs.YtddhhfhammmaaaaGreat
open Go.RowKit Go.Rt

/-- Limbs of digits. -/
def pairL : List Int → List Int
  | [] => []
  | [x] => [x]
  | x :: y :: r => (x + y * 4294967296) :: pairL r
theorem pairL_append : ∀ (k : Nat) (xs ys : List Int), xs.length = 2 * k → pairL (xs ++ ys) = pairL xs ++ pairL ys
  | 0, [], ys, _ => rfl
  | k + 1, x :: y :: r, ys, h => by
    have hr : r.length = 2 * k := by simp at h; omega
    rw [List.cons_append, List.cons_append, pairL, pairL, pairL_append k r ys hr, List.cons_append]
theorem pairL_two (xs : List Int) (k : Nat) (h : 2 * k + 1 < xs.length) : pairL (xs.take (2 * k + 2)) = pairL (xs.take (2 * k)) ++ [xs[2 * k]?.getD 0 + xs[2 * k + 1]?.getD 0 * 4294967296] := by
  have e : xs.take (2 * k + 2) = xs.take (2 * k) ++ [xs[2 * k], xs[2 * k + 1]] := by
    have e1 := List.take_succ_eq_append_getElem h
    have e2 := List.take_succ_eq_append_getElem (show 2 * k < xs.length by omega)
    rw [e2, List.append_assoc] at e1
    exact e1
  rw [e, pairL_append k _ _ (by simp; omega), List.getElem?_eq_getElem h, List.getElem?_eq_getElem (show 2 * k < xs.length by omega)]
  rfl
theorem pairL_one (xs : List Int) (k : Nat) (h : 2 * k < xs.length) (h2 : xs.length ≤ 2 * k + 1) : pairL (xs.take (2 * k + 2)) = pairL (xs.take (2 * k)) ++ [xs[2 * k]?.getD 0] := by
  have e : xs.take (2 * k + 2) = xs.take (2 * k) ++ [xs[2 * k]] := by
    rw [List.take_of_length_le (by omega)]
    have := List.take_succ_eq_append_getElem h
    rw [List.take_of_length_le (by omega)] at this
    exact this
  rw [e, pairL_append k _ _ (by simp; omega), List.getElem?_eq_getElem h]
  rfl
theorem pairL_rng : ∀ {xs : List Int}, Rng 4294967296 xs → Rng 18446744073709551616 (pairL xs)
  | [], _ => fun x hx => by cases hx
  | [x], h => fun y hy => by
    have := h x (by simp)
    simp [pairL] at hy
    subst hy
    omega
  | x :: y :: r, h => fun z hz => by
    have h1 := h x (by simp)
    have h2 := h y (by simp)
    rw [pairL] at hz
    rcases List.mem_cons.1 hz with rfl | hz
    · omega
    · exact pairL_rng (xs := r) (fun q hq => h q (by simp [hq])) z hz
theorem pairL_val : ∀ {xs : List Int}, Rng 4294967296 xs → valB 18446744073709551616 (pairL xs) = valB 4294967296 xs
  | [], _ => rfl
  | [x], h => by simp [pairL, valB]
  | x :: y :: r, h => by
    have h1 := h x (by simp)
    have h2 := h y (by simp)
    have ih := pairL_val (xs := r) (fun q hq => h q (by simp [hq]))
    rw [pairL, valB, valB, valB, ih]
    omega
theorem pairL_len : ∀ (xs : List Int), 2 * (pairL xs).length ≤ xs.length + 1
  | [] => by simp [pairL]
  | [x] => by simp [pairL]
  | x :: y :: r => by
    have := pairL_len r
    rw [pairL, List.length_cons, List.length_cons, List.length_cons]
    omega

theorem u64_same (n : Int) (h0 : 0 ≤ n) (h1 : n < 2 ^ 64) : IntKind.u64.wrap n = n := by
  simp [IntKind.wrap, IntKind.bits, IntKind.signed]
  omega
theorem or_turn (x y : Int) (hx : 0 ≤ x ∧ x < 18446744073709551616) (hy : 0 ≤ y ∧ y < 18446744073709551616) : bits BinOp.or IntKind.u64 x y = bits BinOp.or IntKind.u64 y x := by
  obtain ⟨a, rfl⟩ := Int.eq_ofNat_of_zero_le hx.1
  obtain ⟨b, rfl⟩ := Int.eq_ofNat_of_zero_le hy.1
  have ha : a < 2 ^ 64 := by omega
  have hb : b < 2 ^ 64 := by omega
  rw [(bits_nat IntKind.u64 64 (by decide) u64_same a b ha hb).2, (bits_nat IntKind.u64 64 (by decide) u64_same b a hb ha).2, Nat.or_comm]
theorem or_digits (x y : Int) (hx : 0 ≤ x ∧ x < (4294967296 : Nat)) (hy : 0 ≤ y ∧ y < (4294967296 : Nat)) : bits BinOp.or IntKind.u64 x (y * 4294967296) = x + y * 4294967296 := by
  rw [or_turn x (y * 4294967296) (by omega) (by omega), bits_join IntKind.u64 64 (by decide) u64_same 32 (y * 4294967296) x (by omega) (by omega) (by omega) hx.1 (by omega) (by omega)]
  omega
/-- A slice of memory that is no older than B. -/
def Fresh (B : Nat) (a : Option Addr) : Prop := ∀ x, a = some x → B ≤ x.block
theorem fresh_none (B : Nat) : Fresh B none := fun x h => by cases h
theorem Fresh.mono {B B' : Nat} {a : Option Addr} (h : Fresh B a) (hb : B' ≤ B) : Fresh B' a := fun x hx => Nat.le_trans hb (h x hx)
theorem own_fresh {w : World} {base : Nat} {e : TypeId} {size n c : Nat} {a : Option Addr} {xs : List Value} (h : w.ownsRow base e size (.slice a n c) n xs) : Fresh base a := by
  rcases h.2 with ⟨h1, _⟩ | ⟨g, cap, cur, h1, hb, _⟩
  · injection h1 with e1
    subst e1
    exact fresh_none _
  · injection h1 with e1
    subst e1
    intro x hx
    injection hx with hx
    subst hx
    exact hb
/-- A number handed back, in new memory. -/
def RetNF (w : World) (m : Nat) (e : Ending) (w' : World) : Prop :=
  ∃ a c, e = .returned (.slice a (dig 18446744073709551616 m).length c) ∧ NAt w' w'.heap.size a c m ∧ Below w.heap.size w w' ∧ Fresh w.heap.size a
theorem RetNF.ret {w : World} {m : Nat} {e : Ending} {w' : World} (h : RetNF w m e w') : RetN w m e w' := by
  obtain ⟨a, c, h1, h2, h3, _⟩ := h
  exact ⟨a, c, h1, h2, h3⟩
set_option maxHeartbeats 2000000 in
set_option maxRecDepth 100000 in
theorem nwholeX_any (a : Option Addr) (c hi : Nat) (xs : List Int) (w : World) (h : Ints .u32 w hi a xs) (hhi : hi ≤ w.heap.size) (hn : xs.length ≤ 1000000000) :
    Calls Tryz.prog 77 #[.slice a xs.length c] w (RetNF w (valB 4294967296 xs)) := by
  replace h := h.mono hhi
  have hr := Lib.hid (rng32 h)
  obtain ⟨hm, _, hc⟩ := h
  go_enter Tryz.func77, Tryz.ntmps77
  go_wp2
  go_loopw [3, 4] (fun v i wr => ∃ j k : Nat, Hid (j = 2 * k) ∧ j ≤ xs.length + 1 ∧ i = .int .i64 j ∧ wr.ownsRow w.heap.size 65 1 v k ((pairL (xs.take j)).map (Value.int .u64)) ∧ Below w.heap.size w wr) (fun _ i _ => xs.length + 1 - (intOf i).toNat)
  case atStart => exact ⟨0, 0, Lib.hid rfl, Nat.zero_le _, rfl, World.ownsRow_nil _ _ _ _, Below.refl _ _⟩
  case round =>
    obtain ⟨j, k, HJ, hj, rfl, hown, hbel⟩ := hrel
    obtain ⟨wi, rfl⟩ : ∃ wi : World, wi = wr := ⟨_, rfl⟩
    by_cases hlt : j < xs.length
    · obtain ⟨b, off, rfl, hlb, hcell⟩ := hc j hlt
      have hrx := hr.out.getD (by decide) j
      have hcr : wi.cell? ⟨b, off + j, none⟩ = some (.int .u32 (xs[j]?.getD 0)) := (hbel.cell (p := ⟨b, off + j, none⟩) hlb).trans hcell
      have hk3 := own_len hown
      have hk2 : k ≤ 1000000000 := by have := HJ.out; omega
      have HO := Lib.hid hown
      have HB := Lib.hid hbel
      have hsz := hbel.size
      have ej : RowKit.wrap64 ((j : Int) + 1) = (j : Int) + 1 := IntWalk.wrap64_in _ ⟨by omega, by omega⟩
      by_cases hl2 : j + 1 < xs.length
      · obtain ⟨b2, off2, e2, hlb2, hcell2⟩ := hc (j + 1) hl2
        cases e2
        have hry := hr.out.getD (by decide) (j + 1)
        have hcr2 : wi.cell? ⟨b, off + (j + 1), none⟩ = some (.int .u32 (xs[j + 1]?.getD 0)) := (hbel.cell (p := ⟨b, off + (j + 1), none⟩) hlb2).trans hcell2
        have hT : pairL (xs.take (j + 2)) = pairL (xs.take j) ++ [xs[j]?.getD 0 + xs[j + 1]?.getD 0 * 4294967296] := by rw [HJ.out]; exact pairL_two xs k (by have := HJ.out; omega)
        have HT := Lib.hid hT
        have hl3 : (j : Int) + 1 < (xs.length : Int) := by omega
        clear hT hc hown hbel hcell hcell2
        generalize xs[j]?.getD 0 = x at *
        generalize xs[j + 1]?.getD 0 = y at *
        have e9 : bits BinOp.or IntKind.u64 x (y * 4294967296) = x + y * 4294967296 := or_digits x y hrx hry
        go_upto_region 8 with fail
        go_wp2_with (at_builtin; (refine wpl_append1b 50 65 .u64 8 (by decide) infoU64n Tryz.underlying50 w.heap.size _ k (pairL (xs.take j)) (x + y * 4294967296) _ _ _ rfl rfl rfl HO.out rfl (by omega) hsz ?_); intro v' w1 hown1 hbel1 _)
        have HO1 := Lib.hid hown1
        have HB1 := Lib.hid (hbel1 _ _ (Nat.le_refl _) HB.out)
        clear hown1 hbel1
        go_roundw
        case rel => exact ⟨j + 2, k + 1, Lib.hid (by have := HJ.out; omega), by omega, by go_num, by rw [HT.out]; exact HO1.out, HB1.out⟩
        case measure => simp [intOf]; omega
      · have hT : pairL (xs.take (j + 2)) = pairL (xs.take j) ++ [xs[j]?.getD 0] := by rw [HJ.out]; exact pairL_one xs k (by have := HJ.out; omega) (by have := HJ.out; omega)
        have HT := Lib.hid hT
        have hl3 : ¬ (j : Int) + 1 < (xs.length : Int) := by omega
        clear hT hc hown hbel hcell
        generalize xs[j]?.getD 0 = x at *
        go_wp2_with (at_builtin; (refine wpl_append1b 50 65 .u64 8 (by decide) infoU64n Tryz.underlying50 w.heap.size _ k (pairL (xs.take j)) x _ _ _ rfl rfl rfl HO.out rfl (by omega) hsz ?_); intro v' w1 hown1 hbel1 _)
        have HO1 := Lib.hid hown1
        have HB1 := Lib.hid (hbel1 _ _ (Nat.le_refl _) HB.out)
        clear hown1 hbel1
        go_roundw
        case rel => exact ⟨j + 2, k + 1, Lib.hid (by have := HJ.out; omega), by omega, by go_num, by rw [HT.out]; exact HO1.out, HB1.out⟩
        case measure => simp [intOf]; omega
    · have ht : xs.take j = xs := List.take_of_length_le (by omega)
      rw [ht] at hown
      have hk3 := own_len hown
      skip
      obtain ⟨a1, xsl, he, hI⟩ := own_ints hown (fun x hx => by have := pairL_rng hr.out x hx; exact wf_u64_iff.2 ⟨by omega, by omega⟩)
      subst he
      have hkl : k = (pairL xs).length := by have := own_len hown; simpa using this.symm
      skip
      rw [hkl] at hown
      have hcap := own_cap1 hown
      have hfr := Lib.hid (own_fresh hown)
      have HI := Lib.hid hI
      have HB := Lib.hid hbel
      have HV := Lib.hid (pairL_val hr.out)
      have hpl := pairL_len xs
      have HC := Lib.hid (ntrim_any a1 xsl wi.heap.size (pairL xs) wi hI (by omega) (by omega))
      clear hown hI hbel hc hkl ht hk3
      go_wp2_with (go_at_call 60; refine HC.out.mono ?_; rintro e w2 ⟨rfl, rfl⟩)
      go_ret
      refine ⟨a1, xsl, by rw [← HV.out]; rfl, ?_, HB.out, hfr.out⟩
      rw [← HV.out]
      exact nat_of_ints HI.out ⟨hcap.1, hcap.2⟩
theorem halves_any (a : Option Addr) (c m : Nat) (w : World) (h : NAt w w.heap.size a c m) (hn : (dig 18446744073709551616 m).length ≤ 1000000000) :
    Calls Tryz.prog 76 #[.slice a (dig 18446744073709551616 m).length c] w (RetH w m) := by
  have h2 := halvesX_any a c _ w h.li hn
  rwa [val_dig (by decide)] at h2
theorem nwholeF_any (a : Option Addr) (c m : Nat) (w : World) (h : HAt w w.heap.size a c m) (hn : (dig 4294967296 m).length ≤ 1000000000) :
    Calls Tryz.prog 77 #[.slice a (dig 4294967296 m).length c] w (RetNF w m) := by
  have h2 := nwholeX_any a c _ _ w h.li (Nat.le_refl _) hn
  rwa [val_dig (by decide)] at h2
theorem nwhole_any (a : Option Addr) (c m : Nat) (w : World) (h : HAt w w.heap.size a c m) (hn : (dig 4294967296 m).length ≤ 1000000000) :
    Calls Tryz.prog 77 #[.slice a (dig 4294967296 m).length c] w (RetN w m) := (nwholeF_any a c m w h hn).mono fun _ _ => RetNF.ret
theorem nof_any (x : Int) (hx : 0 ≤ x ∧ x < 18446744073709551616) (w : World) : Calls Tryz.prog 28 #[.int .u64 x] w (RetN w x.toNat) := by
  have hI : Ints .u64 (w.alloc (.cells #[.int .u64 x] 65)) (w.alloc (.cells #[.int .u64 x] 65)).heap.size (some ⟨w.heap.size, 0, none⟩) [x] :=
    ⟨by simp, by simp; exact wf_u64_iff.2 ⟨by omega, by omega⟩, fun i hi => by
      match i, hi with
      | 0, _ => exact ⟨w.heap.size, 0, rfl, by simp, by simp [go_sem]⟩⟩
  have HI := Lib.hid hI
  have HC := Lib.hid (ntrim_any _ 1 _ [x] _ hI (by simp) (by decide))
  have hv : valB 18446744073709551616 [x] = x.toNat := by simp [valB]
  rw [hv] at HC
  clear hI
  go_enter Tryz.func28, Tryz.ntmps28
  go_wp2_with (go_at_call 60; refine HC.out.mono ?_; rintro e w2 ⟨rfl, rfl⟩)
  go_ret
  refine ⟨_, 1, rfl, ?_, (Below.refl _ _).alloc (Nat.le_refl _) _⟩
  rw [← hv]
  exact nat_of_ints HI.out (by simp)
end Go.Proofs.YtddhhfhammmaaaaGreat
/- Walks of the references' whole numbers: sums. -/
set_option linter.unusedVariables false
set_option linter.unusedSimpArgs false
namespace Go.Proofs.YtddhhfhammmaaaaGreat
open Go.RowKit Go.Rt

theorem valB_take_succ' (B : Nat) (xs : List Int) (k : Nat) : valB B (xs.take (k + 1)) = valB B (xs.take k) + B ^ k * (xs[k]?.getD 0).toNat := by
  by_cases h : k < xs.length
  · exact valB_take_succ B xs k h
  · rw [List.take_of_length_le (by omega), List.take_of_length_le (by omega), List.getElem?_eq_none (by omega)]
    simp
theorem valB_snoc (B : Nat) (xs : List Int) (d : Int) (k : Nat) (hl : xs.length = k) : valB B (xs ++ [d]) = valB B xs + B ^ k * d.toNat := by
  rw [valB_append, hl]
  simp [valB]
theorem plus_step {B k U V dx dy : Nat} {L : List Int} {C : Nat} (h : valB B L + B ^ k * C = U + V) (hl : L.length = k) : valB B (L ++ [(((C + dx + dy) % B : Nat) : Int)]) + B ^ (k + 1) * ((C + dx + dy) / B) = (U + B ^ k * dx) + (V + B ^ k * dy) := by
  rw [valB_snoc B L _ k hl, Int.toNat_natCast, Nat.pow_succ, Nat.mul_assoc, Nat.add_assoc, ← Nat.mul_add, Nat.mod_add_div, Nat.mul_add, Nat.mul_add]
  omega
theorem dig32_len (m : Nat) : (dig 4294967296 m).length ≤ 2 * (dig 18446744073709551616 m).length := by
  refine dig_len_le (by decide) _ m ?_
  have h := lt_dig_len (B := 18446744073709551616) (by decide) m
  rw [Nat.pow_mul]
  exact h
theorem own_len_k {k : IntKind} {w : World} {base : Nat} {e : TypeId} {v : Value} {n : Nat} {xs : List Int} (h : w.ownsRow base e 1 v n (xs.map (Value.int k))) : xs.length = n := by
  have := h.1
  simpa using this

set_option maxHeartbeats 8000000 in
set_option maxRecDepth 100000 in
theorem nplus_any (a b : Option Addr) (c d m n : Nat) (w : World) (h : NAt w w.heap.size a c m) (h' : NAt w w.heap.size b d n) (hm : (dig 18446744073709551616 m).length ≤ 1000000) (hn : (dig 18446744073709551616 n).length ≤ 1000000) :
    Calls Tryz.prog 52 #[.slice a (dig 18446744073709551616 m).length c, .slice b (dig 18446744073709551616 n).length d] w (RetN w (m + n)) := by
  have h1 := fun w' (hb : Below w.heap.size w w') => Lib.hid (halves_any a c m w' (h.next hb) (by omega))
  have h2 := fun w' (hb : Below w.heap.size w w') => Lib.hid (halves_any b d n w' (h'.next hb) (by omega))
  clear h h'
  have k1 := dig32_len m
  have k2 := dig32_len n
  go_enter Tryz.func52, Tryz.ntmps52
  go_upto_region 3 with (first | (go_at_call_of 76 a; refine (h1 w (Below.refl _ _)).out.mono ?_; rintro e w1 ⟨ax, cx, rfl, hX, hb1⟩; have HX1 := Lib.hid hX; have HB1 := Lib.hid hb1; clear hX hb1) | (go_at_call_of 76 b; refine (h2 _ HB1.out).out.mono ?_; rintro e w2 ⟨ay, cy, rfl, hY, hb2⟩; have HY2 := Lib.hid hY; have HB2 := Lib.hid hb2; clear hY hb2))
  have HX2 := Lib.hid (HX1.out.next HB2.out)
  have HBW := Lib.hid (HB1.out.trans (HB2.out.mono HB1.out.size))
  clear HX1 HB1 HB2
  obtain ⟨X, hXe⟩ : ∃ X, dig 4294967296 m = X := ⟨_, rfl⟩
  obtain ⟨Y, hYe⟩ : ∃ Y, dig 4294967296 n = Y := ⟨_, rfl⟩
  have rX : Rng 4294967296 X := by rw [← hXe]; exact dig_rng (by decide) _
  have rY : Rng 4294967296 Y := by rw [← hYe]; exact dig_rng (by decide) _
  have vX : valB 4294967296 X = m := by rw [← hXe]; exact val_dig (by decide) _
  have vY : valB 4294967296 Y = n := by rw [← hYe]; exact val_dig (by decide) _
  have HcX := Lib.hid HX2.out.li
  have HcY := Lib.hid HY2.out.li
  rw [hXe] at HcX
  rw [hYe] at HcY
  rw [hXe] at k1 ⊢
  rw [hYe] at k2 ⊢
  have RX := Lib.hid rX
  have RY := Lib.hid rY
  have VX := Lib.hid vX
  have VY := Lib.hid vY
  clear hXe hYe rX rY vX vY HX2 HY2 h1 h2
  have hlX : X.length ≤ 2000000 := by omega
  have hlY : Y.length ≤ 2000000 := by omega
  clear k1 k2
  go_wp2_with fail
  go_loopw [7, 8, 9] (fun v c i wr => ∃ (k C : Nat) (L : List Int), k ≤ 2000000 ∧ (k ≤ X.length ∨ k ≤ Y.length) ∧ c = .int .u64 C ∧ i = .int .i64 k ∧ C ≤ 1 ∧ Hid (Rng 4294967296 L) ∧ Hid (valB 4294967296 L + 4294967296 ^ k * C = valB 4294967296 (X.take k) + valB 4294967296 (Y.take k)) ∧ wr.ownsRow w2.heap.size 111 1 v k (L.map (Value.int .u32)) ∧ Below w2.heap.size w2 wr) (fun _ _ i _ => 2000001 - (intOf i).toNat)
  case atStart => exact ⟨0, 0, [], by omega, .inl (Nat.zero_le _), rfl, rfl, Nat.zero_le _, Lib.hid (fun x hx => by cases hx), Lib.hid rfl, World.ownsRow_nil _ _ _ _, Below.refl _ _⟩
  case round =>
    obtain ⟨k, C, L, hk, hkm, rfl, rfl, hC, HR, HV, hown, hbel⟩ := hrel
    obtain ⟨wi, rfl⟩ : ∃ wi : World, wi = wr := ⟨_, rfl⟩
    have HO := Lib.hid hown
    have HB := Lib.hid hbel
    have hsz := hbel.size
    have HLL := Lib.hid (own_len_k hown)
    clear hown hbel
    have dX := RX.out.getD (by decide) k
    have dY := RY.out.getD (by decide) k
    obtain ⟨dx, edx⟩ : ∃ d : Nat, X[k]?.getD 0 = (d : Int) := ⟨(X[k]?.getD 0).toNat, by omega⟩
    obtain ⟨dy, edy⟩ : ∃ d : Nat, Y[k]?.getD 0 = (d : Int) := ⟨(Y[k]?.getD 0).toNat, by omega⟩
    have hst := plus_step (dx := dx) (dy := dy) HV.out HLL.out
    have t1 := valB_take_succ' 4294967296 X k
    have t2 := valB_take_succ' 4294967296 Y k
    rw [edx, Int.toNat_natCast] at t1
    rw [edy, Int.toNat_natCast] at t2
    rw [← t1, ← t2] at hst
    obtain ⟨r, hr⟩ : ∃ r : Nat, (C + dx + dy) % 4294967296 = r := ⟨_, rfl⟩
    obtain ⟨q, hq⟩ : ∃ q : Nat, (C + dx + dy) / 4294967296 = q := ⟨_, rfl⟩
    rw [hr, hq] at hst
    have hR2 : Rng 4294967296 (L ++ [(r : Int)]) := HR.out.append (by intro x hx; simp only [List.mem_singleton] at hx; subst hx; omega)
    rw [edx] at dX
    rw [edy] at dY
    have HV2 := Lib.hid hst
    have HR2 := Lib.hid hR2
    clear hst t1 t2 hR2
    have hC2 : q ≤ 1 := by omega
    have HRR := Lib.hid hr
    have HQQ := Lib.hid hq
    clear hr hq
    by_cases hx : k < X.length
    · by_cases hy : k < Y.length
      · skip
        obtain ⟨b1, o1, ex, hlb, cX⟩ := HcX.out.cell k hx
        rw [edx] at cX
        replace cX := (HB.out.cell (p := ⟨b1, o1 + k, none⟩) hlb).trans cX
        subst ex
        have ix : (k : Int) < (X.length : Int) := by omega
        obtain ⟨b2, o2, ey, hlb2, cY⟩ := HcY.out.cell k hy
        rw [edy] at cY
        replace cY := (HB.out.cell (p := ⟨b2, o2 + k, none⟩) hlb2).trans cY
        subst ey
        have iy : (k : Int) < (Y.length : Int) := by omega
        obtain ⟨s1, hs1⟩ : ∃ s1 : Nat, s1 = C + dx := ⟨_, rfl⟩
        have eS1 : ∀ [Inhabited Unit], (C : Int) + (dx : Int) = (s1 : Int) := by intro _; omega
        have b1 : s1 ≤ 4294967296 := by omega
        obtain ⟨s2, hs2⟩ : ∃ s2 : Nat, s2 = s1 + dy := ⟨_, rfl⟩
        have eS2 : ∀ [Inhabited Unit], (s1 : Int) + (dy : Int) = (s2 : Int) := by intro _; omega
        have b2 : s2 ≤ 8589934592 := by omega
        have hr := HRR.out
        have hq := HQQ.out
        have eM : ∀ [Inhabited Unit], IntKind.u32.wrap (s2 : Int) = (r : Int) := by intro _; rw [IntKind.wrap_u32]; omega
        have eD : ∀ [Inhabited Unit], (s2 : Int) / 4294967296 = (q : Int) := by intro _; omega
        have g0 : (0 : Int) ≤ (s2 : Int) := by omega
        clear hr hq edx edy hx hy hs1 hs2
        have i0 : (0 : Int) ≤ (k : Int) := by omega
        as_aux_lemma =>
          go_upto_region 12 with fail
          go_wp2_with (at_builtin; (refine wpl_append1b 109 111 .u32 4 (by decide) infoU32n Tryz.underlying109 w2.heap.size _ k L (r : Int) _ _ _ rfl rfl rfl HO.out rfl (by omega) hsz ?_); intro v' w3 hown1 hbel1 _; have HO1 := Lib.hid hown1; have HB1 := Lib.hid (hbel1 _ _ (Nat.le_refl _) HB.out); clear hown1 hbel1)
          go_wp2
          go_roundw
          case rel => exact ⟨k + 1, q, _, by omega, by omega, rfl, by go_num, hC2, HR2, HV2, HO1.out, HB1.out⟩
          case measure => simp [intOf]; omega
      · skip
        obtain ⟨b1, o1, ex, hlb, cX⟩ := HcX.out.cell k hx
        rw [edx] at cX
        replace cX := (HB.out.cell (p := ⟨b1, o1 + k, none⟩) hlb).trans cX
        subst ex
        have ix : (k : Int) < (X.length : Int) := by omega
        have iy : ¬ (k : Int) < (Y.length : Int) := by omega
        obtain rfl : dy = 0 := by rw [List.getElem?_eq_none (by omega)] at edy; simp at edy; omega
        obtain ⟨s1, hs1⟩ : ∃ s1 : Nat, s1 = C + dx := ⟨_, rfl⟩
        have eS1 : ∀ [Inhabited Unit], (C : Int) + (dx : Int) = (s1 : Int) := by intro _; omega
        have b1 : s1 ≤ 4294967296 := by omega
        have hr := HRR.out
        have hq := HQQ.out
        have eM : ∀ [Inhabited Unit], IntKind.u32.wrap (s1 : Int) = (r : Int) := by intro _; rw [IntKind.wrap_u32]; omega
        have eD : ∀ [Inhabited Unit], (s1 : Int) / 4294967296 = (q : Int) := by intro _; omega
        have g0 : (0 : Int) ≤ (s1 : Int) := by omega
        clear hr hq edx edy hx hy hs1 
        have i0 : (0 : Int) ≤ (k : Int) := by omega
        as_aux_lemma =>
          go_upto_region 12 with fail
          go_wp2_with (at_builtin; (refine wpl_append1b 109 111 .u32 4 (by decide) infoU32n Tryz.underlying109 w2.heap.size _ k L (r : Int) _ _ _ rfl rfl rfl HO.out rfl (by omega) hsz ?_); intro v' w3 hown1 hbel1 _; have HO1 := Lib.hid hown1; have HB1 := Lib.hid (hbel1 _ _ (Nat.le_refl _) HB.out); clear hown1 hbel1)
          go_wp2
          go_roundw
          case rel => exact ⟨k + 1, q, _, by omega, by omega, rfl, by go_num, hC2, HR2, HV2, HO1.out, HB1.out⟩
          case measure => simp [intOf]; omega
    · by_cases hy : k < Y.length
      · skip
        have ix : ¬ (k : Int) < (X.length : Int) := by omega
        obtain rfl : dx = 0 := by rw [List.getElem?_eq_none (by omega)] at edx; simp at edx; omega
        obtain ⟨b2, o2, ey, hlb2, cY⟩ := HcY.out.cell k hy
        rw [edy] at cY
        replace cY := (HB.out.cell (p := ⟨b2, o2 + k, none⟩) hlb2).trans cY
        subst ey
        have iy : (k : Int) < (Y.length : Int) := by omega
        obtain ⟨s2, hs2⟩ : ∃ s2 : Nat, s2 = C + dy := ⟨_, rfl⟩
        have eS2 : ∀ [Inhabited Unit], (C : Int) + (dy : Int) = (s2 : Int) := by intro _; omega
        have b2 : s2 ≤ 8589934592 := by omega
        have hr := HRR.out
        have hq := HQQ.out
        have eM : ∀ [Inhabited Unit], IntKind.u32.wrap (s2 : Int) = (r : Int) := by intro _; rw [IntKind.wrap_u32]; omega
        have eD : ∀ [Inhabited Unit], (s2 : Int) / 4294967296 = (q : Int) := by intro _; omega
        have g0 : (0 : Int) ≤ (s2 : Int) := by omega
        clear hr hq edx edy hx hy hs2
        have i0 : (0 : Int) ≤ (k : Int) := by omega
        as_aux_lemma =>
          go_upto_region 12 with fail
          go_wp2_with (at_builtin; (refine wpl_append1b 109 111 .u32 4 (by decide) infoU32n Tryz.underlying109 w2.heap.size _ k L (r : Int) _ _ _ rfl rfl rfl HO.out rfl (by omega) hsz ?_); intro v' w3 hown1 hbel1 _; have HO1 := Lib.hid hown1; have HB1 := Lib.hid (hbel1 _ _ (Nat.le_refl _) HB.out); clear hown1 hbel1)
          go_wp2
          go_roundw
          case rel => exact ⟨k + 1, q, _, by omega, by omega, rfl, by go_num, hC2, HR2, HV2, HO1.out, HB1.out⟩
          case measure => simp [intOf]; omega
      · have ix : ¬ (k : Int) < (X.length : Int) := by omega
        have iy : ¬ (k : Int) < (Y.length : Int) := by omega
        have hv := HV.out
        rw [List.take_of_length_le (by omega), List.take_of_length_le (by omega), VX.out, VY.out] at hv
        have hv2 : valB 4294967296 (L ++ [(C : Int)]) = m + n := by rw [valB_snoc _ _ _ k HLL.out, Int.toNat_natCast]; exact hv
        have HV3 := Lib.hid hv2
        have HR3 := Lib.hid (show Rng 4294967296 (L ++ [(C : Int)]) from HR.out.append (by intro x hx; simp only [List.mem_singleton] at hx; subst hx; omega))
        have eM : IntKind.u32.wrap (C : Int) = (C : Int) := by rw [IntKind.wrap_u32]; omega
        have hll : (L ++ [(C : Int)]).length = k + 1 := by rw [List.length_append, HLL.out]; rfl
        have HLN := Lib.hid hll
        clear hv hv2 HRR HQQ HV2 HR2 edx edy hC2 hll hx hy
        go_wp2_with (first | (at_builtin; (refine wpl_append1b 109 111 .u32 4 (by decide) infoU32n Tryz.underlying109 w2.heap.size _ k L (C : Int) _ _ _ rfl rfl rfl HO.out rfl (by omega) hsz ?_); intro v' w3 hown1 hbel1 _; have HB1 := Lib.hid (hbel1 _ _ (Nat.le_refl _) HB.out); obtain ⟨a3, c3, rfl, _⟩ := own_shape hown1; obtain ⟨a4, c4, he, hI⟩ := own_ints hown1 (fun x hx => by have := HR3.out x hx; exact wf_u32_iff.2 ⟨by omega, by omega⟩); injection he with e1 e2 e3; clear e2; subst e1; subst e3; have HCP := Lib.hid (own_cap1 hown1); have HCQ : Hid ((L ++ [(C : Int)]).length ≤ c3 ∧ c3 ≤ 9223372036854775807) := Lib.hid (by rw [HLN.out]; exact HCP.out); have HI := Lib.hid hI; have HC := Lib.hid (cut_any a3 c3 w3.heap.size _ w3 hI HCQ.out.1 HCQ.out.2); rw [HV3.out, HLN.out] at HC; have HD := Lib.hid (dig_of_ints HI.out HCQ.out); rw [HV3.out] at HD; have HW := Lib.hid (nwhole_any a3 c3 (m + n) w3 HD.out (by have := HD.out.c1; have e := dig_is_take (B := 4294967296) (by decide) HR3.out; rw [HV3.out] at e; have e2 := congrArg List.length e; rw [List.length_take, HLN.out] at e2; omega)); clear hown1 hbel1 hI HD HI) | (go_at_call 78; refine HC.out.mono ?_; rintro e w4 ⟨rfl, rfl⟩) | (go_at_call 77; refine HW.out.mono ?_; rintro e w5 ⟨a5, c5, rfl, hN, hb5⟩; have HN := Lib.hid hN; have HB5 := Lib.hid hb5; clear hN hb5))
        go_ret
        exact ⟨a5, c5, rfl, HN.out, (HBW.out.trans (HB1.out.mono HBW.out.size)).trans (HB5.out.mono (Nat.le_trans HBW.out.size HB1.out.size))⟩
end Go.Proofs.YtddhhfhammmaaaaGreat
/- Walks of the references' whole numbers: differences. -/
set_option linter.unusedVariables false
set_option linter.unusedSimpArgs false
namespace Go.Proofs.YtddhhfhammmaaaaGreat
open Go.RowKit Go.Rt

theorem less_step {B k U V dx dy b b' r : Nat} {L : List Int} (h : valB B L + V = U + B ^ k * b) (hl : L.length = k) (he : dx + b' * B = r + dy + b) : valB B (L ++ [(r : Int)]) + (V + B ^ k * dy) = (U + B ^ k * dx) + B ^ (k + 1) * b' := by
  have e : B ^ k * (dx + b' * B) = B ^ k * (r + dy + b) := by rw [he]
  rw [Nat.mul_add, Nat.mul_add, Nat.mul_add, Nat.mul_comm b' B, ← Nat.mul_assoc] at e
  rw [valB_snoc B L _ k hl, Int.toNat_natCast, Nat.pow_succ]
  omega
theorem less_end {B k m n b : Nat} {L : List Int} (hB : 2 ≤ B) (hr : Rng B L) (hl : L.length = k) (h : valB B L + n = m + B ^ k * b) (hmn : n ≤ m) : valB B L = m - n := by
  have h1 := valB_lt hB hr
  rw [hl] at h1
  by_cases hb : b = 0
  · subst hb
    omega
  · have : B ^ k * 1 ≤ B ^ k * b := Nat.mul_le_mul (Nat.le_refl _) (by omega)
    omega

set_option maxHeartbeats 8000000 in
set_option maxRecDepth 100000 in
theorem nlessF_any (a b : Option Addr) (c d m n : Nat) (w : World) (h : NAt w w.heap.size a c m) (h' : NAt w w.heap.size b d n) (hm : (dig 18446744073709551616 m).length ≤ 1000000) (hn : (dig 18446744073709551616 n).length ≤ 1000000) (hnm : n ≤ m) :
    Calls Tryz.prog 54 #[.slice a (dig 18446744073709551616 m).length c, .slice b (dig 18446744073709551616 n).length d] w (RetNF w (m - n)) := by
  have h1 := fun w' (hb : Below w.heap.size w w') => Lib.hid (halves_any a c m w' (h.next hb) (by omega))
  have h2 := fun w' (hb : Below w.heap.size w w') => Lib.hid (halves_any b d n w' (h'.next hb) (by omega))
  clear h h'
  have k1 := dig32_len m
  have k2 := dig32_len n
  go_enter Tryz.func54, Tryz.ntmps54
  go_upto_region 3 with (first | (go_at_call_of 76 a; refine (h1 w (Below.refl _ _)).out.mono ?_; rintro e w1 ⟨ax, cx, rfl, hX, hb1⟩; have HX1 := Lib.hid hX; have HB1 := Lib.hid hb1; clear hX hb1) | (go_at_call_of 76 b; refine (h2 _ HB1.out).out.mono ?_; rintro e w2 ⟨ay, cy, rfl, hY, hb2⟩; have HY2 := Lib.hid hY; have HB2 := Lib.hid hb2; clear hY hb2))
  have HX2 := Lib.hid (HX1.out.next HB2.out)
  have HBW := Lib.hid (HB1.out.trans (HB2.out.mono HB1.out.size))
  clear HX1 HB1 HB2
  obtain ⟨X, hXe⟩ : ∃ X, dig 4294967296 m = X := ⟨_, rfl⟩
  obtain ⟨Y, hYe⟩ : ∃ Y, dig 4294967296 n = Y := ⟨_, rfl⟩
  have rX : Rng 4294967296 X := by rw [← hXe]; exact dig_rng (by decide) _
  have rY : Rng 4294967296 Y := by rw [← hYe]; exact dig_rng (by decide) _
  have vX : valB 4294967296 X = m := by rw [← hXe]; exact val_dig (by decide) _
  have vY : valB 4294967296 Y = n := by rw [← hYe]; exact val_dig (by decide) _
  have HcX := Lib.hid HX2.out.li
  have HcY := Lib.hid HY2.out.li
  rw [hXe] at HcX
  rw [hYe] at HcY
  rw [hXe] at k1 ⊢
  rw [hYe] at k2 ⊢
  have RX := Lib.hid rX
  have RY := Lib.hid rY
  have VX := Lib.hid vX
  have VY := Lib.hid vY
  have HXE := Lib.hid hXe
  have HYE := Lib.hid hYe
  clear hXe hYe rX rY vX vY HX2 HY2 h1 h2
  have hlX : X.length ≤ 2000000 := by omega
  have hlY : Y.length ≤ 2000000 := by omega
  clear k1 k2
  have hYX : Y.length ≤ X.length := by have h := dig_len_mono (B := 4294967296) (by decide) hnm; rw [HXE.out, HYE.out] at h; exact h
  go_wp2_with fail
  go_loopw [7, 8, 9] (fun v c i wr => ∃ (k b : Nat) (ci : Int) (L : List Int), k ≤ X.length ∧ c = .int .i64 ci ∧ ci = -(b : Int) ∧ i = .int .i64 k ∧ b ≤ 1 ∧ Hid (Rng 4294967296 L) ∧ Hid (valB 4294967296 L + valB 4294967296 (Y.take k) = valB 4294967296 (X.take k) + 4294967296 ^ k * b) ∧ wr.ownsRow w2.heap.size 111 1 v k (L.map (Value.int .u32)) ∧ Below w2.heap.size w2 wr) (fun _ _ i _ => X.length - (intOf i).toNat)
  case atStart => exact ⟨0, 0, 0, [], Nat.zero_le _, rfl, rfl, rfl, Nat.zero_le _, Lib.hid (fun x hx => by cases hx), Lib.hid rfl, World.ownsRow_nil _ _ _ _, Below.refl _ _⟩
  case round =>
    obtain ⟨k, b0, C, L, hk, rfl, hCb, rfl, hC, HR, HV, hown, hbel⟩ := hrel
    obtain ⟨wi, rfl⟩ : ∃ wi : World, wi = wr := ⟨_, rfl⟩
    have HO := Lib.hid hown
    have HB := Lib.hid hbel
    have hsz := hbel.size
    have HLL := Lib.hid (own_len_k hown)
    clear hown hbel
    by_cases hx : k < X.length
    · skip
      have dX := RX.out.getD (by decide) k
      have dY := RY.out.getD (by decide) k
      obtain ⟨dx, edx⟩ : ∃ d : Nat, X[k]?.getD 0 = (d : Int) := ⟨(X[k]?.getD 0).toNat, by omega⟩
      obtain ⟨dy, edy⟩ : ∃ d : Nat, Y[k]?.getD 0 = (d : Int) := ⟨(Y[k]?.getD 0).toNat, by omega⟩
      rw [edx] at dX
      rw [edy] at dY
      obtain ⟨r, hr⟩ : ∃ r : Nat, (C + dx - dy) % 4294967296 = (r : Int) := ⟨((C + dx - dy) % 4294967296).toNat, by omega⟩
      obtain ⟨b1, hb1⟩ : ∃ b1 : Nat, (C + dx - dy) / 4294967296 = -(b1 : Int) := ⟨(-((C + dx - dy) / 4294967296)).toNat, by omega⟩
      have hst := less_step (dx := dx) (dy := dy) (r := r) (b' := b1) HV.out HLL.out (by omega)
      have t1 := valB_take_succ' 4294967296 X k
      have t2 := valB_take_succ' 4294967296 Y k
      rw [edx, Int.toNat_natCast] at t1
      rw [edy, Int.toNat_natCast] at t2
      rw [← t1, ← t2] at hst
      have hR2 : Rng 4294967296 (L ++ [(r : Int)]) := HR.out.append (by intro x hx; simp only [List.mem_singleton] at hx; subst hx; omega)
      have hB2 : b1 ≤ 1 := by omega
      have HV2 := Lib.hid hst
      have HR2 := Lib.hid hR2
      clear hst t1 t2 hR2
      have HRR := Lib.hid hr
      have HQQ := Lib.hid hb1
      have HCB := Lib.hid hCb
      have hC0 : -1 ≤ C ∧ C ≤ 0 := by omega
      clear hr hb1 hCb
      obtain ⟨bX, oX, ex, hlb, cX⟩ := HcX.out.cell k hx
      rw [edx] at cX
      replace cX := (HB.out.cell (p := ⟨bX, oX + k, none⟩) hlb).trans cX
      subst ex
      have ix : (k : Int) < (X.length : Int) := by omega
      have i0 : (0 : Int) ≤ (k : Int) := by omega
      obtain ⟨s1, hs1, eS1⟩ : ∃ s1 : Int, Hid (s1 = C + dx) ∧ ∀ [Inhabited Unit], C + (dx : Int) = s1 := ⟨_, Lib.hid rfl, fun {_} => rfl⟩
      have z1 : -1 ≤ s1 ∧ s1 ≤ 4294967295 := by have := hs1.out; omega
      by_cases hy : k < Y.length
      · skip
        obtain ⟨bY, oY, ey, hlb2, cY⟩ := HcY.out.cell k hy
        rw [edy] at cY
        replace cY := (HB.out.cell (p := ⟨bY, oY + k, none⟩) hlb2).trans cY
        subst ey
        have iy : (k : Int) < (Y.length : Int) := by omega
        obtain ⟨s2, hs2, eS2⟩ : ∃ s2 : Int, Hid (s2 = s1 - dy) ∧ ∀ [Inhabited Unit], s1 - (dy : Int) = s2 := ⟨_, Lib.hid rfl, fun {_} => rfl⟩
        have z2 : -4294967296 ≤ s2 ∧ s2 ≤ 4294967295 := by have := hs2.out; omega
        have hs := hs2.out
        have hsx := hs1.out
        have hr := HRR.out
        have hq := HQQ.out
        obtain ⟨su, hsu, eU⟩ : ∃ su : Int, Hid (su = s2 % 18446744073709551616) ∧ ∀ [Inhabited Unit], IntKind.u64.wrap s2 = su := ⟨_, Lib.hid rfl, fun {_} => by simp [IntKind.wrap, IntKind.bits, IntKind.signed]⟩
        have zu : 0 ≤ su ∧ su < 18446744073709551616 := by have := hsu.out; omega
        have eM : ∀ [Inhabited Unit], IntKind.u32.wrap su = (r : Int) := by intro _; rw [IntKind.wrap_u32]; have := hsu.out; omega
        have eD : ∀ [Inhabited Unit], s2 / 4294967296 = -(b1 : Int) := by intro _; omega
        have eF : ∀ [Inhabited Unit], s2.fdiv 4294967296 = -(b1 : Int) := by intro _; rw [Int.fdiv_eq_ediv_of_nonneg _ (by decide)]; omega
        have eF2 : ∀ [Inhabited Unit], s2.fdiv (2 ^ min (Int.toNat 32) IntKind.i64.bits) = -(b1 : Int) := by intro _; rw [show (2 : Int) ^ min (Int.toNat 32) IntKind.i64.bits = 4294967296 from rfl, Int.fdiv_eq_ediv_of_nonneg _ (by decide)]; omega
        clear hr hq hsx edx edy hx hy hs
        as_aux_lemma =>
          go_upto_region 11 with fail
          go_wp2_with (at_builtin; (refine wpl_append1b 109 111 .u32 4 (by decide) infoU32n Tryz.underlying109 w2.heap.size _ k L (r : Int) _ _ _ rfl rfl rfl HO.out rfl (by omega) hsz ?_); intro v' w3 hown1 hbel1 _; have HO1 := Lib.hid hown1; have HB1 := Lib.hid (hbel1 _ _ (Nat.le_refl _) HB.out); clear hown1 hbel1)
          go_wp2
          go_roundw
          case rel => exact ⟨k + 1, b1, _, _, by omega, rfl, by omega, by go_num, hB2, HR2, HV2, HO1.out, HB1.out⟩
          case measure => simp [intOf]; omega
      · skip
        have iy : ¬ (k : Int) < (Y.length : Int) := by omega
        obtain rfl : dy = 0 := by rw [List.getElem?_eq_none (by omega)] at edy; simp at edy; omega
        have hsx := hs1.out
        have hr := HRR.out
        have hq := HQQ.out
        obtain ⟨su, hsu, eU⟩ : ∃ su : Int, Hid (su = s1 % 18446744073709551616) ∧ ∀ [Inhabited Unit], IntKind.u64.wrap s1 = su := ⟨_, Lib.hid rfl, fun {_} => by simp [IntKind.wrap, IntKind.bits, IntKind.signed]⟩
        have zu : 0 ≤ su ∧ su < 18446744073709551616 := by have := hsu.out; omega
        have eM : ∀ [Inhabited Unit], IntKind.u32.wrap su = (r : Int) := by intro _; rw [IntKind.wrap_u32]; have := hsu.out; omega
        have eD : ∀ [Inhabited Unit], s1 / 4294967296 = -(b1 : Int) := by intro _; omega
        have eF : ∀ [Inhabited Unit], s1.fdiv 4294967296 = -(b1 : Int) := by intro _; rw [Int.fdiv_eq_ediv_of_nonneg _ (by decide)]; omega
        have eF2 : ∀ [Inhabited Unit], s1.fdiv (2 ^ min (Int.toNat 32) IntKind.i64.bits) = -(b1 : Int) := by intro _; rw [show (2 : Int) ^ min (Int.toNat 32) IntKind.i64.bits = 4294967296 from rfl, Int.fdiv_eq_ediv_of_nonneg _ (by decide)]; omega
        clear hr hq hsx edx edy hx hy
        as_aux_lemma =>
          go_upto_region 11 with fail
          go_wp2_with (at_builtin; (refine wpl_append1b 109 111 .u32 4 (by decide) infoU32n Tryz.underlying109 w2.heap.size _ k L (r : Int) _ _ _ rfl rfl rfl HO.out rfl (by omega) hsz ?_); intro v' w3 hown1 hbel1 _; have HO1 := Lib.hid hown1; have HB1 := Lib.hid (hbel1 _ _ (Nat.le_refl _) HB.out); clear hown1 hbel1)
          go_wp2
          go_roundw
          case rel => exact ⟨k + 1, b1, _, _, by omega, rfl, by omega, by go_num, hB2, HR2, HV2, HO1.out, HB1.out⟩
          case measure => simp [intOf]; omega
    · have ix : ¬ (k : Int) < (X.length : Int) := by omega
      have hv := HV.out
      rw [List.take_of_length_le (by omega), List.take_of_length_le (by omega), VX.out, VY.out] at hv
      have hv2 := less_end (by decide) HR.out HLL.out hv hnm
      have HV3 := Lib.hid hv2
      have HR3 := HR
      have hll := HLL.out
      have HLN := HLL
      clear hv hv2 hx hll hnm
      (have hown1 := HO.out; obtain ⟨a3, c3, rfl, _⟩ := own_shape hown1; obtain ⟨a4, c4, he, hI⟩ := own_ints hown1 (fun x hx => by have := HR3.out x hx; exact wf_u32_iff.2 ⟨by omega, by omega⟩); injection he with e1 e2 e3; clear e2; subst e1; subst e3; have HCP := Lib.hid (own_cap1 hown1); have HCQ : Hid (L.length ≤ c3 ∧ c3 ≤ 9223372036854775807) := Lib.hid (by rw [HLN.out]; exact HCP.out); have HI := Lib.hid hI; have HC := Lib.hid (cut_any a3 c3 wi.heap.size _ wi hI HCQ.out.1 HCQ.out.2); rw [HV3.out, HLN.out] at HC; have HD := Lib.hid (dig_of_ints HI.out HCQ.out); rw [HV3.out] at HD; have HW := Lib.hid (nwholeF_any a3 c3 (m - n) wi HD.out (by have e := dig_is_take (B := 4294967296) (by decide) HR3.out; rw [HV3.out] at e; have e2 := congrArg List.length e; rw [List.length_take, HLN.out] at e2; omega)); clear hown1 hI HD HI)
      go_wp2_with (first | (go_at_call 78; refine HC.out.mono ?_; rintro e w4 ⟨rfl, rfl⟩) | (go_at_call 77; refine HW.out.mono ?_; rintro e w5 ⟨a5, c5, rfl, hN, hb5, hf5⟩; have HN := Lib.hid hN; have HF5 := Lib.hid hf5; clear hf5; have HB5 := Lib.hid hb5; clear hN hb5))
      go_ret
      exact ⟨a5, c5, rfl, HN.out, (HBW.out.trans (HB.out.mono HBW.out.size)).trans (HB5.out.mono (Nat.le_trans HBW.out.size HB.out.size)), HF5.out.mono (Nat.le_trans HBW.out.size HB.out.size)⟩
theorem nless_any (a b : Option Addr) (c d m n : Nat) (w : World) (h : NAt w w.heap.size a c m) (h' : NAt w w.heap.size b d n) (hm : (dig 18446744073709551616 m).length ≤ 1000000) (hn : (dig 18446744073709551616 n).length ≤ 1000000) (hnm : n ≤ m) :
    Calls Tryz.prog 54 #[.slice a (dig 18446744073709551616 m).length c, .slice b (dig 18446744073709551616 n).length d] w (RetN w (m - n)) := (nlessF_any a b c d m n w h h' hm hn hnm).mono fun _ _ => RetNF.ret
end Go.Proofs.YtddhhfhammmaaaaGreat
