/- The law WideExact, walked. -/
import Derived.Test.YtlbmpdidmckgkaaDiv7
import Derived.Test.YtlbmpdidmckgkaaWide7
import Derived.Test.YtlbmpdidmckgkaaEnv
import Derived.Test.YtlbmpdidmckgkaaTxt3
import Derived.Test.YtlbmpdidmckgkaaLeftF
import Derived.Deep.RegionHeld3
import Derived.Deep.Cut
import Derived.Deep.CutBlock
import Derived.Deep.CutRange
set_option linter.unusedVariables false
set_option linter.unusedSimpArgs false
namespace Go.Proofs.Ytlbmpdidmckgkaa
open Go.RowKit Go.Rt

theorem lstC {α : Type} {n : Nat} {l : List α} (h : l.length = n + 1) : ∃ x t, l = x :: t ∧ t.length = n := by
  cases l with
  | nil => cases h
  | cons x t => exact ⟨x, t, rfl, Nat.succ.inj h⟩
theorem lst32 {α : Type} {l0 : List α} (h0 : l0.length = 32) : ∃ x0 x1 x2 x3 x4 x5 x6 x7 x8 x9 x10 x11 x12 x13 x14 x15 x16 x17 x18 x19 x20 x21 x22 x23 x24 x25 x26 x27 x28 x29 x30 x31, l0 = [x0, x1, x2, x3, x4, x5, x6, x7, x8, x9, x10, x11, x12, x13, x14, x15, x16, x17, x18, x19, x20, x21, x22, x23, x24, x25, x26, x27, x28, x29, x30, x31] := by
  obtain ⟨x0, l1, rfl, h1⟩ := lstC h0
  obtain ⟨x1, l2, rfl, h2⟩ := lstC h1
  obtain ⟨x2, l3, rfl, h3⟩ := lstC h2
  obtain ⟨x3, l4, rfl, h4⟩ := lstC h3
  obtain ⟨x4, l5, rfl, h5⟩ := lstC h4
  obtain ⟨x5, l6, rfl, h6⟩ := lstC h5
  obtain ⟨x6, l7, rfl, h7⟩ := lstC h6
  obtain ⟨x7, l8, rfl, h8⟩ := lstC h7
  obtain ⟨x8, l9, rfl, h9⟩ := lstC h8
  obtain ⟨x9, l10, rfl, h10⟩ := lstC h9
  obtain ⟨x10, l11, rfl, h11⟩ := lstC h10
  obtain ⟨x11, l12, rfl, h12⟩ := lstC h11
  obtain ⟨x12, l13, rfl, h13⟩ := lstC h12
  obtain ⟨x13, l14, rfl, h14⟩ := lstC h13
  obtain ⟨x14, l15, rfl, h15⟩ := lstC h14
  obtain ⟨x15, l16, rfl, h16⟩ := lstC h15
  obtain ⟨x16, l17, rfl, h17⟩ := lstC h16
  obtain ⟨x17, l18, rfl, h18⟩ := lstC h17
  obtain ⟨x18, l19, rfl, h19⟩ := lstC h18
  obtain ⟨x19, l20, rfl, h20⟩ := lstC h19
  obtain ⟨x20, l21, rfl, h21⟩ := lstC h20
  obtain ⟨x21, l22, rfl, h22⟩ := lstC h21
  obtain ⟨x22, l23, rfl, h23⟩ := lstC h22
  obtain ⟨x23, l24, rfl, h24⟩ := lstC h23
  obtain ⟨x24, l25, rfl, h25⟩ := lstC h24
  obtain ⟨x25, l26, rfl, h26⟩ := lstC h25
  obtain ⟨x26, l27, rfl, h27⟩ := lstC h26
  obtain ⟨x27, l28, rfl, h28⟩ := lstC h27
  obtain ⟨x28, l29, rfl, h29⟩ := lstC h28
  obtain ⟨x29, l30, rfl, h30⟩ := lstC h29
  obtain ⟨x30, l31, rfl, h31⟩ := lstC h30
  obtain ⟨x31, l32, rfl, h32⟩ := lstC h31
  obtain rfl := List.length_eq_zero_iff.1 h32
  exact ⟨x0, x1, x2, x3, x4, x5, x6, x7, x8, x9, x10, x11, x12, x13, x14, x15, x16, x17, x18, x19, x20, x21, x22, x23, x24, x25, x26, x27, x28, x29, x30, x31, rfl⟩
theorem lst50 {α : Type} {l0 : List α} (h0 : l0.length = 50) : ∃ x0 x1 x2 x3 x4 x5 x6 x7 x8 x9 x10 x11 x12 x13 x14 x15 x16 x17 x18 x19 x20 x21 x22 x23 x24 x25 x26 x27 x28 x29 x30 x31 x32 x33 x34 x35 x36 x37 x38 x39 x40 x41 x42 x43 x44 x45 x46 x47 x48 x49, l0 = [x0, x1, x2, x3, x4, x5, x6, x7, x8, x9, x10, x11, x12, x13, x14, x15, x16, x17, x18, x19, x20, x21, x22, x23, x24, x25, x26, x27, x28, x29, x30, x31, x32, x33, x34, x35, x36, x37, x38, x39, x40, x41, x42, x43, x44, x45, x46, x47, x48, x49] := by
  obtain ⟨x0, l1, rfl, h1⟩ := lstC h0
  obtain ⟨x1, l2, rfl, h2⟩ := lstC h1
  obtain ⟨x2, l3, rfl, h3⟩ := lstC h2
  obtain ⟨x3, l4, rfl, h4⟩ := lstC h3
  obtain ⟨x4, l5, rfl, h5⟩ := lstC h4
  obtain ⟨x5, l6, rfl, h6⟩ := lstC h5
  obtain ⟨x6, l7, rfl, h7⟩ := lstC h6
  obtain ⟨x7, l8, rfl, h8⟩ := lstC h7
  obtain ⟨x8, l9, rfl, h9⟩ := lstC h8
  obtain ⟨x9, l10, rfl, h10⟩ := lstC h9
  obtain ⟨x10, l11, rfl, h11⟩ := lstC h10
  obtain ⟨x11, l12, rfl, h12⟩ := lstC h11
  obtain ⟨x12, l13, rfl, h13⟩ := lstC h12
  obtain ⟨x13, l14, rfl, h14⟩ := lstC h13
  obtain ⟨x14, l15, rfl, h15⟩ := lstC h14
  obtain ⟨x15, l16, rfl, h16⟩ := lstC h15
  obtain ⟨x16, l17, rfl, h17⟩ := lstC h16
  obtain ⟨x17, l18, rfl, h18⟩ := lstC h17
  obtain ⟨x18, l19, rfl, h19⟩ := lstC h18
  obtain ⟨x19, l20, rfl, h20⟩ := lstC h19
  obtain ⟨x20, l21, rfl, h21⟩ := lstC h20
  obtain ⟨x21, l22, rfl, h22⟩ := lstC h21
  obtain ⟨x22, l23, rfl, h23⟩ := lstC h22
  obtain ⟨x23, l24, rfl, h24⟩ := lstC h23
  obtain ⟨x24, l25, rfl, h25⟩ := lstC h24
  obtain ⟨x25, l26, rfl, h26⟩ := lstC h25
  obtain ⟨x26, l27, rfl, h27⟩ := lstC h26
  obtain ⟨x27, l28, rfl, h28⟩ := lstC h27
  obtain ⟨x28, l29, rfl, h29⟩ := lstC h28
  obtain ⟨x29, l30, rfl, h30⟩ := lstC h29
  obtain ⟨x30, l31, rfl, h31⟩ := lstC h30
  obtain ⟨x31, l32, rfl, h32⟩ := lstC h31
  obtain ⟨x32, l33, rfl, h33⟩ := lstC h32
  obtain ⟨x33, l34, rfl, h34⟩ := lstC h33
  obtain ⟨x34, l35, rfl, h35⟩ := lstC h34
  obtain ⟨x35, l36, rfl, h36⟩ := lstC h35
  obtain ⟨x36, l37, rfl, h37⟩ := lstC h36
  obtain ⟨x37, l38, rfl, h38⟩ := lstC h37
  obtain ⟨x38, l39, rfl, h39⟩ := lstC h38
  obtain ⟨x39, l40, rfl, h40⟩ := lstC h39
  obtain ⟨x40, l41, rfl, h41⟩ := lstC h40
  obtain ⟨x41, l42, rfl, h42⟩ := lstC h41
  obtain ⟨x42, l43, rfl, h43⟩ := lstC h42
  obtain ⟨x43, l44, rfl, h44⟩ := lstC h43
  obtain ⟨x44, l45, rfl, h45⟩ := lstC h44
  obtain ⟨x45, l46, rfl, h46⟩ := lstC h45
  obtain ⟨x46, l47, rfl, h47⟩ := lstC h46
  obtain ⟨x47, l48, rfl, h48⟩ := lstC h47
  obtain ⟨x48, l49, rfl, h49⟩ := lstC h48
  obtain ⟨x49, l50, rfl, h50⟩ := lstC h49
  obtain rfl := List.length_eq_zero_iff.1 h50
  exact ⟨x0, x1, x2, x3, x4, x5, x6, x7, x8, x9, x10, x11, x12, x13, x14, x15, x16, x17, x18, x19, x20, x21, x22, x23, x24, x25, x26, x27, x28, x29, x30, x31, x32, x33, x34, x35, x36, x37, x38, x39, x40, x41, x42, x43, x44, x45, x46, x47, x48, x49, rfl⟩
theorem envW {k : IntKind} {e : TypeId} {B : Nat} {w0 W : World} {L : List (Option Addr × List Int)} {O : List (Nat × Option Addr × Nat × List Int)} {C : List (Addr × Value)} (E : Env k e B w0 W L O C) : ∃ Wb, W = Wb := ⟨_, rfl⟩
theorem cellOf {B : Nat} {Wb w' : World} {a : Addr} {v : Value} (h : Below B Wb w') (hc : Wb.cell? a = some v) (hlt : a.block < B) : w'.cell? a = some v := (h.cell (p := a) hlt).trans hc
theorem V_abs {h l : Int} (a : WR h l) : (V h l).natAbs < 2 ^ 130 := by
  obtain ⟨_, _, _, _⟩ := a
  have : (2 : Nat) ^ 130 = 1361129467683753853853498429727072845824 := by decide
  rw [this]
  unfold V
  omega
theorem ZEnv.re {B : Nat} {w0 W : World} {L : List (Nat × Value × Value)} {N : List (Option Addr × Nat × Nat)} (h : ZEnv B w0 W L N) : ZEnv W.heap.size W W L N := ⟨Nat.le_refl _, Below.refl _ _, h.boxes, h.nums⟩
/-- A variable written anew, whatever it held: the numbers are older than all, or newer than it. -/
theorem ZEnv.storeO {B : Nat} {w0 W : World} {L : List (Nat × Value × Value)} {N : List (Option Addr × Nat × Nat)} {b : Nat} {v0 v1 : Value} (h : ZEnv B w0 W ((b, v0, v1) :: L) N) (hne : ∀ p ∈ L, p.1 ≠ b) (hb : B ≤ b) (N' : List (Option Addr × Nat × Nat)) (hN : ∀ p ∈ N', NAt w0 B p.1 p.2.1 p.2.2 ∨ (NAt W W.heap.size p.1 p.2.1 p.2.2 ∧ Fresh (b + 1) p.1)) (y0 y1 : Value) :
    ZEnv B w0 ((W.setCell ⟨b, 0, none⟩ y0).setCell ⟨b, 1, none⟩ y1) ((b, y0, y1) :: L) N' := by
  have hX := h.box 0 (b := b) rfl
  have hlt := World.block_lt_of_cell? W _ hX.c0
  have hs : ((W.setCell ⟨b, 0, none⟩ y0).setCell ⟨b, 1, none⟩ y1).heap.size = W.heap.size := by simp
  have hbel : Below B w0 ((W.setCell ⟨b, 0, none⟩ y0).setCell ⟨b, 1, none⟩ y1) := (h.bel.setCell hb _).setCell hb _
  refine ⟨by rw [hs]; exact h.hB, hbel, fun p hp => ?_, fun p hp => ?_⟩
  · rcases List.mem_cons.1 hp with rfl | hp
    · obtain ⟨c0, c1, f0, f1⟩ := hX
      refine ⟨⟨?_, ?_, ?_, ?_⟩, by rw [hs]; exact hlt⟩ <;> go_simp
    · have hn := hne p hp
      obtain ⟨⟨c0, c1, f0, f1⟩, hl⟩ := h.boxes p (List.mem_cons_of_mem _ hp)
      refine ⟨⟨?_, ?_, ?_, ?_⟩, by rw [hs]; exact hl⟩
      · rw [World.cell?_setCell_far _ _ _ _ (Ne.symm hn), World.cell?_setCell_far _ _ _ _ (Ne.symm hn)]; exact c0
      · rw [World.cell?_setCell_far _ _ _ _ (Ne.symm hn), World.cell?_setCell_far _ _ _ _ (Ne.symm hn)]; exact c1
      · go_simp
      · go_simp
  · rcases hN p hp with h1 | ⟨h1, h2⟩
    · exact (h1.below hbel (Nat.le_refl _)).mono (by rw [hs]; exact h.hB)
    · rw [hs]
      exact fresh_away (fresh_away h1 h2 (Nat.lt_succ_self _)) h2 (Nat.lt_succ_self _)
theorem cmp_sgn (x y z : Int) (h : x - y = z) : cmpI x y = sgnI z := by
  unfold cmpI sgnI
  subst h
  by_cases h1 : x = y
  · subst h1
    simp
  · rw [if_neg h1]
    by_cases h2 : x < y
    · rw [if_pos h2, if_pos (by omega)]
    · rw [if_neg h2, if_neg (by omega), if_neg (by omega)]
theorem small_is (ah al : Int) (hA : WR ah al) : ∃ (v : Int) (b : Bool), (∀ w, Calls Try.prog 19 #[.agg #[.int .i64 ah, .int .u64 al]] w fun e w' => e = .returned (.tuple #[.int .i64 v, .bool b]) ∧ Below w.heap.size w w') ∧
    (∀ a c w, NAt w w.heap.size a c (V ah al).natAbs → Calls Try.prog 42 #[.agg #[.bool (decide (V ah al < 0)), .slice a (dig 18446744073709551616 (V ah al).natAbs).length c]] w fun e w' => e = .returned (.tuple #[.int .i64 v, .bool b]) ∧ Below w.heap.size w w') := by
  refine ⟨if smallZ (V ah al) = true then V ah al else 0, smallZ (V ah al), fun w => ?_, fun a c w hN => zsmall_any a c (V ah al) w hN⟩
  have hs := small_any ah al w hA
  have e1 : smallZ (V ah al) = decide (-9223372036854775808 ≤ V ah al ∧ V ah al ≤ 9223372036854775807) := by
    unfold smallZ
    by_cases h1 : -9223372036854775808 ≤ V ah al <;> by_cases h2 : V ah al ≤ 9223372036854775807 <;> simp [h1, h2]
  rw [e1]
  simp only [decide_eq_true_eq]
  exact hs
theorem txt_str (l : List Int) : ∃ s, txt l = .string s := ⟨_, rfl⟩
theorem add_is (ah al bh bl : Int) (hA : WR ah al) (hB : WR bh bl) : ∃ XH XL EX : Int, (∀ w, Calls Try.prog 33 #[.agg #[.int .i64 ah, .int .u64 al], .agg #[.int .i64 bh, .int .u64 bl]] w (RetWE w XH XL EX)) ∧
    (∀ a c w, NAt w w.heap.size a c (V ah al + V bh bl).natAbs → Calls Try.prog 16 #[.agg #[.int .i64 XH, .int .u64 XL], .int .i64 EX, .int .i64 0, .agg #[.bool (decide (V ah al + V bh bl < 0)), .slice a (dig 18446744073709551616 (V ah al + V bh bl).natAbs).length c]] w fun e w' => e = .returned (.bool true) ∧ Below w.heap.size w w') := by
  have h1 := V_abs hA
  have h2 := V_abs hB
  have hb : (V ah al + V bh bl).natAbs < 2 ^ 131 := by
    rw [Nat.pow_succ]
    generalize (2 : Nat) ^ 130 = p at *
    omega
  by_cases hin : inR (V ah al + V bh bl)
  · exact ⟨_, _, _, fun w => add_in ah al bh bl w hA hB hin, fun a c w hN => is_in a c 131 _ w hN (by decide) hb hin⟩
  · exact ⟨_, _, _, fun w => add_out ah al bh bl w hA hB hin, fun a c w hN => is_out a c 131 _ w hN (by decide) hb hin⟩
theorem sub_is (ah al bh bl : Int) (hA : WR ah al) (hB : WR bh bl) : ∃ XH XL EX : Int, (∀ w, Calls Try.prog 28 #[.agg #[.int .i64 ah, .int .u64 al], .agg #[.int .i64 bh, .int .u64 bl]] w (RetWE w XH XL EX)) ∧
    (∀ a c w, NAt w w.heap.size a c (V ah al - V bh bl).natAbs → Calls Try.prog 16 #[.agg #[.int .i64 XH, .int .u64 XL], .int .i64 EX, .int .i64 0, .agg #[.bool (decide (V ah al - V bh bl < 0)), .slice a (dig 18446744073709551616 (V ah al - V bh bl).natAbs).length c]] w fun e w' => e = .returned (.bool true) ∧ Below w.heap.size w w') := by
  have h1 := V_abs hA
  have h2 := V_abs hB
  have hb : (V ah al - V bh bl).natAbs < 2 ^ 131 := by
    rw [Nat.pow_succ]
    generalize (2 : Nat) ^ 130 = p at *
    omega
  by_cases hin : inR (V ah al - V bh bl)
  · exact ⟨_, _, _, fun w => sub_in ah al bh bl w hA hB hin, fun a c w hN => is_in a c 131 _ w hN (by decide) hb hin⟩
  · exact ⟨_, _, _, fun w => sub_out ah al bh bl w hA hB hin, fun a c w hN => is_out a c 131 _ w hN (by decide) hb hin⟩
theorem neg_is (ah al : Int) (hA : WR ah al) : ∃ XH XL EX : Int, (∀ w, Calls Try.prog 27 #[.agg #[.int .i64 ah, .int .u64 al]] w (RetWE w XH XL EX)) ∧
    (∀ a c w, NAt w w.heap.size a c (-V ah al).natAbs → Calls Try.prog 16 #[.agg #[.int .i64 XH, .int .u64 XL], .int .i64 EX, .int .i64 0, .agg #[.bool (decide (-V ah al < 0)), .slice a (dig 18446744073709551616 (-V ah al).natAbs).length c]] w fun e w' => e = .returned (.bool true) ∧ Below w.heap.size w w') := by
  have h1 := V_abs hA
  have hb : (-V ah al).natAbs < 2 ^ 130 := by
    rw [Int.natAbs_neg]
    exact h1
  by_cases hin : inR (-V ah al)
  · exact ⟨_, _, _, fun w => neg_in ah al w hA hin, fun a c w hN => is_in a c 130 _ w hN (by decide) hb hin⟩
  · exact ⟨_, _, _, fun w => neg_out ah al w hA hin, fun a c w hN => is_out a c 130 _ w hN (by decide) hb hin⟩
theorem left_is (ah al : Int) (n : Nat) (hA : WR ah al) (hn : n ≤ 126) : ∃ XH XL EX : Int, (∀ w, Calls Try.prog 30 #[.agg #[.int .i64 ah, .int .u64 al], .int .i64 n] w (RetWE w XH XL EX)) ∧
    (∀ a c w, NAt w w.heap.size a c (V ah al * 2 ^ n).natAbs → Calls Try.prog 16 #[.agg #[.int .i64 XH, .int .u64 XL], .int .i64 EX, .int .i64 0, .agg #[.bool (decide (V ah al * 2 ^ n < 0)), .slice a (dig 18446744073709551616 (V ah al * 2 ^ n).natAbs).length c]] w fun e w' => e = .returned (.bool true) ∧ Below w.heap.size w w') := by
  have h1 := V_abs hA
  have hb : (V ah al * 2 ^ n).natAbs < 2 ^ 256 := by
    rw [Int.natAbs_mul, Int.natAbs_pow]
    have h2 : (2 : Nat) ^ n ≤ 2 ^ 126 := Nat.pow_le_pow_right (by decide) hn
    have h3 : ((2 : Int).natAbs) ^ n = 2 ^ n := rfl
    rw [h3]
    have h4 := Nat.mul_lt_mul_of_lt_of_le h1 h2 (Nat.pow_pos (by decide))
    rw [← Nat.pow_add] at h4
    exact h4
  by_cases hin : inR (V ah al * 2 ^ n)
  · exact ⟨_, _, _, fun w => left_in ah al n w hn hA hin, fun a c w hN => is_in a c 256 _ w hN (by decide) hb hin⟩
  · exact ⟨_, _, _, fun w => left_out ah al n w hn hA hin, fun a c w hN => is_out a c 256 _ w hN (by decide) hb hin⟩
theorem mul_is (x y : Int) (x0 : -9223372036854775808 ≤ x) (x1 : x ≤ 9223372036854775807) (y0 : -9223372036854775808 ≤ y) (y1 : y ≤ 9223372036854775807) (a : Option Addr) (c : Nat) (w : World) (hN : NAt w w.heap.size a c (x * y).natAbs) :
    Calls Try.prog 16 #[.agg #[.int .i64 (x * y / 18446744073709551616), .int .u64 (x * y % 18446744073709551616)], .int .i64 0, .int .i64 0, .agg #[.bool (decide (x * y < 0)), .slice a (dig 18446744073709551616 (x * y).natAbs).length c]] w fun e w' => e = .returned (.bool true) ∧ Below w.heap.size w w' := by
  have hm : x.natAbs * y.natAbs ≤ 9223372036854775808 * 9223372036854775808 := Nat.mul_le_mul (by omega) (by omega)
  have hp : (2 : Nat) ^ 130 = 1361129467683753853853498429727072845824 := by decide
  rw [← Int.natAbs_mul] at hm
  refine is_in a c 130 _ w hN (by decide) (by rw [hp]; omega) ?_
  unfold inR
  omega

set_option maxHeartbeats 8000000 in
set_option maxRecDepth 100000 in
theorem wideExact_any (a : Option Addr) (n c : Nat) (w : World) (h : PairsAt w w.heap.size a n) :
    Calls Try.prog 9 #[.slice a n c] w fun e w' => e = .returned (.bool true) ∧ Below w.heap.size w w' := by
  have hm := h.len
  go_enter Try.func9, Try.ntmps9
  go_wp2_with fail
  go_loopw [3] (fun i wr => ∃ k : Nat, k ≤ n ∧ i = .int .i64 k ∧ Below w.heap.size w wr) (fun i _ => n - (intOf i).toNat)
  case atStart => exact ⟨0, Nat.zero_le _, rfl, Below.refl _ _⟩
  case round =>
    obtain ⟨k, hk, rfl, hbel⟩ := hrel
    by_cases hend : k < n ∧ k < 30
    · obtain ⟨hlt, h20⟩ := hend
      obtain ⟨b, off, ah, al, bh, bl, x, y, m, rfl, ht⟩ := h.at_ k hlt
      replace ht := ht.below hbel
      have hsz := hbel.size
      obtain ⟨hlb, c0, c1, c2, c3, c4, c5, c6, hA, hB, x0, x1, y0, y1, m0, m1⟩ := ht
      have HB := Lib.hid hbel
      clear hbel h
      have E : Env .u64 23 wr.heap.size wr (wr.alloc (.cells #[.int .i64 ah, .int .u64 al, .int .i64 bh, .int .u64 bl, .int .i64 x, .int .i64 y, .int .i64 m] 27)) [] [] [(⟨wr.heap.size, 6, none⟩, .int .i64 m), (⟨wr.heap.size, 5, none⟩, .int .i64 y), (⟨wr.heap.size, 4, none⟩, .int .i64 x), (⟨wr.heap.size, 3, none⟩, .int .u64 bl), (⟨wr.heap.size, 2, none⟩, .int .i64 bh), (⟨wr.heap.size, 1, none⟩, .int .u64 al), (⟨wr.heap.size, 0, none⟩, .int .i64 ah)] :=
        (((((((((Env.start .u64 23 wr)).alloc _).addC (by simp [go_sem])).addC (by simp [go_sem])).addC (by simp [go_sem])).addC (by simp [go_sem])).addC (by simp [go_sem])).addC (by simp [go_sem])).addC (by simp [go_sem])
      have hIA := fun w => Lib.hid (ref1Int_any ah al w hA)
      have hIB := fun w => Lib.hid (ref1Int_any bh bl w hB)
      have hVA := V_abs hA
      have hVB := V_abs hB
      obtain ⟨XH, XL, EX, had0, hi10⟩ := add_is ah al bh bl hA hB
      obtain ⟨YH, YL, EY, hsb0, hi20⟩ := sub_is ah al bh bl hA hB
      obtain ⟨ZH, ZL, EZ, hng0, hi30⟩ := neg_is ah al hA
      have had := fun w => Lib.hid (had0 w)
      have hsb := fun w => Lib.hid (hsb0 w)
      have hng := fun w => Lib.hid (hng0 w)
      obtain ⟨SN, SB, hsm0, hzm0⟩ := small_is ah al hA
      have hsm := fun w => Lib.hid (hsm0 w)
      have hzm := fun a c w h => Lib.hid (hzm0 a c w h)
      obtain ⟨ts, hts⟩ := txt_str (txtZ (V ah al))
      have hwt := fun w => Lib.hid (wtext_any ah al w hA)
      have hzt := fun a c w h => Lib.hid (ztext_any a c 130 (V ah al) w h (by decide) hVA)
      rw [hts] at hwt hzt
      have hsg := fun w => Lib.hid (sign_any ah al w hA)
      have hcm := fun w => Lib.hid (cmp_any ah al bh bl w hA hB)
      rw [cmp_sgn (V ah al) 0 (V ah al) (Int.sub_zero _)] at hsg
      rw [cmp_sgn (V ah al) (V bh bl) _ rfl] at hcm
      have lA := Nat.le_trans (dig_fits 130 hVA (by decide)) (show 400000 ≤ 1000000 by decide)
      have lB := Nat.le_trans (dig_fits 130 hVB (by decide)) (show 400000 ≤ 1000000 by decide)
      have hPL := fun a b c d w h h2 => Lib.hid (zplus_any a b c d (V ah al) (V bh bl) _ w h h2 lA lB rfl)
      have hLS := fun a b c d w h h2 => Lib.hid (zless_any a b c d (V ah al) (V bh bl) _ w h h2 lA lB rfl)
      have hNG := fun a c w h => Lib.hid (zneg_any a c (V ah al) w h)
      have hZS := fun a c w => Lib.hid (zsign_any a c (V ah al) w)
      have hZC := fun a b c d w h h2 => Lib.hid (zcmp_any a b c d (V ah al) (V bh bl) _ w h h2 lA lB rfl)
      have hml := fun w => Lib.hid (mul_any x y w x0 x1 y0 y1)
      have hi5 := fun a c w h => Lib.hid (mul_is x y x0 x1 y0 y1 a c w h)
      have hZT := fun a b c d w h h2 => Lib.hid (ztimes_any a b c d x y w h h2 (dig_word (by omega)) (dig_word (by omega)))
      have hfx := fun w => Lib.hid (zfrom_any x w x0 x1)
      have hfy := fun w => Lib.hid (zfrom_any y w y0 y1)
      have hwf := fun w => Lib.hid (from_any x w x0 x1)
      have hrf := fun w => Lib.hid (ref1From_any x w x0 x1)
      have hLB := fun w (hn : m < 0 ∨ 126 < m) => Lib.hid (left_bad ah al m w hn)
      have hLG := fun (n : Nat) (hn : n ≤ 126) => Lib.hid (left_is ah al n hA hn)
      have hLZ := fun a c (n : Nat) w h (hn : n ≤ 126) => Lib.hid (zleftF_any a c n (V ah al) (V ah al * 2 ^ n) w h lA (by omega) (by rw [Int.natCast_pow]; rfl))
      obtain ⟨S, hS⟩ : ∃ z, V ah al + V bh bl = z := ⟨_, rfl⟩
      obtain ⟨T, hT⟩ : ∃ z, V ah al - V bh bl = z := ⟨_, rfl⟩
      obtain ⟨G, hG⟩ : ∃ z, -V ah al = z := ⟨_, rfl⟩
      obtain ⟨M, hM⟩ : ∃ z, x * y = z := ⟨_, rfl⟩
      rw [hS] at hPL hi10
      rw [hT] at hLS hi20 hZC hcm
      rw [hG] at hNG hi30
      rw [hM] at hml hi5 hZT
      obtain ⟨VA, hVAe⟩ : ∃ z, V ah al = z := ⟨_, rfl⟩
      obtain ⟨VB, hVBe⟩ : ∃ z, V bh bl = z := ⟨_, rfl⟩
      rw [hVAe] at hIA hPL hLS hNG hZS hZC hLZ hLG hzt hzm hsg
      rw [hVBe] at hIB hPL hLS hZC
      have hi1 := fun a c w h => Lib.hid (hi10 a c w h)
      have hi2 := fun a c w h => Lib.hid (hi20 a c w h)
      have hi3 := fun a c w h => Lib.hid (hi30 a c w h)
      obtain ⟨C0, hC0⟩ : ∃ z, sgnI VA = z := ⟨_, rfl⟩
      obtain ⟨C1, hC1⟩ : ∃ z, sgnI T = z := ⟨_, rfl⟩
      rw [hC0] at hsg hZS
      rw [hC1] at hcm hZC
      obtain ⟨MH, hMH⟩ : ∃ z, M / 18446744073709551616 = z := ⟨_, rfl⟩
      obtain ⟨ML, hML⟩ : ∃ z, M % 18446744073709551616 = z := ⟨_, rfl⟩
      rw [hMH, hML] at hml hi5
      obtain ⟨FH, hFH⟩ : ∃ z, x / 9223372036854775808 = z := ⟨_, rfl⟩
      obtain ⟨FL, hFL⟩ : ∃ z, x % 18446744073709551616 = z := ⟨_, rfl⟩
      rw [hFH, hFL] at hwf hrf
      clear had0 hi10 hsb0 hi20 hng0 hi30 hsm0 hzm0 hts hVA hVB lA lB hS hT hG hM hVAe hVBe hC0 hC1 hMH hML hFH hFL
      go_upto_region 5 with fail
      obtain ⟨W1, hW1⟩ := envW E
      rw [hW1] at E ⊢
      clear hW1
      have P0 := Lib.hid (E.cell (a := ⟨wr.heap.size, 0, none⟩) (v := .int .i64 ah) (by simp))
      have P1 := Lib.hid (E.cell (a := ⟨wr.heap.size, 1, none⟩) (v := .int .u64 al) (by simp))
      have P2 := Lib.hid (E.cell (a := ⟨wr.heap.size, 2, none⟩) (v := .int .i64 bh) (by simp))
      have P3 := Lib.hid (E.cell (a := ⟨wr.heap.size, 3, none⟩) (v := .int .u64 bl) (by simp))
      have P4 := Lib.hid (E.cell (a := ⟨wr.heap.size, 4, none⟩) (v := .int .i64 x) (by simp))
      have P5 := Lib.hid (E.cell (a := ⟨wr.heap.size, 5, none⟩) (v := .int .i64 y) (by simp))
      have P6 := Lib.hid (E.cell (a := ⟨wr.heap.size, 6, none⟩) (v := .int .i64 m) (by simp))
      have hltp := (E.cells (⟨wr.heap.size, 0, none⟩, .int .i64 ah) (by simp)).2
      have BP := Lib.hid (HB.out.trans (E.bel.mono hsz))
      clear E
      have E := ZEnv.start W1
      have p0 := cellOf E.bel P0.out hltp
      have p1 := cellOf E.bel P1.out hltp
      have p2 := cellOf E.bel P2.out hltp
      have p3 := cellOf E.bel P3.out hltp
      have p4 := cellOf E.bel P4.out hltp
      have p5 := cellOf E.bel P5.out hltp
      have p6 := cellOf E.bel P6.out hltp
      have M1 := True.intro
      go_upto_region 6 with (go_at_call 10; have hmk := M1; clear hmk M1; go_loud (refine (hIA _).out.mono ?_; rintro e w5 ⟨a5, c5, rfl, hN5, hb5⟩; replace E := (((E.next hb5).addN hN5).alloc (.cells #[.bool (decide (VA < 0)), .slice a5 (dig 18446744073709551616 (VA).natAbs).length c5] 31)).addB (b := w5.heap.size) (v0 := .bool (decide (VA < 0))) (v1 := .slice a5 (dig 18446744073709551616 (VA).natAbs).length c5) (zbox_made _ _ _ _); clear hN5 hb5; (try clear p0 p1 p2 p3 p4 p5 p6); have p0 := cellOf E.bel P0.out hltp; have p1 := cellOf E.bel P1.out hltp; have p2 := cellOf E.bel P2.out hltp; have p3 := cellOf E.bel P3.out hltp; have p4 := cellOf E.bel P4.out hltp; have p5 := cellOf E.bel P5.out hltp; have p6 := cellOf E.bel P6.out hltp))
      have M2 := True.intro
      go_upto_region 7 with (go_at_call 10; have hmk := M2; clear hmk M2; go_loud (refine (hIB _).out.mono ?_; rintro e w6 ⟨a6, c6, rfl, hN6, hb6⟩; have H56 := Lib.hid ((E.next hb6).lt 0 (b := w5.heap.size) rfl); replace E := (((E.next hb6).addN hN6).alloc (.cells #[.bool (decide (VB < 0)), .slice a6 (dig 18446744073709551616 (VB).natAbs).length c6] 31)).addB (b := w6.heap.size) (v0 := .bool (decide (VB < 0))) (v1 := .slice a6 (dig 18446744073709551616 (VB).natAbs).length c6) (zbox_made _ _ _ _); clear hN6 hb6; (try clear p0 p1 p2 p3 p4 p5 p6); have p0 := cellOf E.bel P0.out hltp; have p1 := cellOf E.bel P1.out hltp; have p2 := cellOf E.bel P2.out hltp; have p3 := cellOf E.bel P3.out hltp; have p4 := cellOf E.bel P4.out hltp; have p5 := cellOf E.bel P5.out hltp; have p6 := cellOf E.bel P6.out hltp))
      generalize hB5 : w5.heap.size = B5 at *
      generalize hB6 : w6.heap.size = B6 at *
      obtain ⟨W6, hW6⟩ := envZ E
      rw [hW6] at E
      (try rw [hW6])
      clear hW6 hB5 hB6
      (try clear p0 p1 p2 p3 p4 p5 p6)
      have p0 := cellOf E.bel P0.out hltp
      have p1 := cellOf E.bel P1.out hltp
      have p2 := cellOf E.bel P2.out hltp
      have p3 := cellOf E.bel P3.out hltp
      have p4 := cellOf E.bel P4.out hltp
      have p5 := cellOf E.bel P5.out hltp
      have p6 := cellOf E.bel P6.out hltp
      go_upto_region 8 with (go_at_call 33; refine (had _).out.mono ?_; rintro e w7 ⟨rfl, hbb⟩; replace P0 := Lib.hid (cellOf (E.next hbb).bel P0.out hltp); replace P1 := Lib.hid (cellOf (E.next hbb).bel P1.out hltp); replace P2 := Lib.hid (cellOf (E.next hbb).bel P2.out hltp); replace P3 := Lib.hid (cellOf (E.next hbb).bel P3.out hltp); replace P4 := Lib.hid (cellOf (E.next hbb).bel P4.out hltp); replace P5 := Lib.hid (cellOf (E.next hbb).bel P5.out hltp); replace P6 := Lib.hid (cellOf (E.next hbb).bel P6.out hltp); replace hltp := Nat.lt_of_lt_of_le hltp (E.next hbb).hB; replace BP := Lib.hid (BP.out.trans ((E.next hbb).bel.mono BP.out.size)); replace E := (E.next hbb).re; have HB7N := Lib.hid (E.num 0 rfl); have HA7N := Lib.hid (E.num 1 rfl); have H67 := Lib.hid (E.lt 0 (b := B6) rfl); have H57 := Lib.hid (E.lt 1 (b := B5) rfl); replace hbb := Below.refl w7.heap.size w7; replace E := ((E.next hbb).alloc (.cells #[.int .i64 XH, .int .u64 XL] 25)).addB (b := w7.heap.size) (v0 := .int .i64 XH) (v1 := .int .u64 XL) (zbox_made _ _ _ _); clear hbb; (try clear p0 p1 p2 p3 p4 p5 p6); have p0 := cellOf E.bel P0.out hltp; have p1 := cellOf E.bel P1.out hltp; have p2 := cellOf E.bel P2.out hltp; have p3 := cellOf E.bel P3.out hltp; have p4 := cellOf E.bel P4.out hltp; have p5 := cellOf E.bel P5.out hltp; have p6 := cellOf E.bel P6.out hltp)
      go_upto_region 9 with (go_at_call 28; refine (hsb _).out.mono ?_; rintro e w8 ⟨rfl, hbb⟩; have H78 := Lib.hid ((E.next hbb).lt 0 (b := w7.heap.size) rfl); replace E := ((E.next hbb).alloc (.cells #[.int .i64 YH, .int .u64 YL] 25)).addB (b := w8.heap.size) (v0 := .int .i64 YH) (v1 := .int .u64 YL) (zbox_made _ _ _ _); clear hbb; (try clear p0 p1 p2 p3 p4 p5 p6); have p0 := cellOf E.bel P0.out hltp; have p1 := cellOf E.bel P1.out hltp; have p2 := cellOf E.bel P2.out hltp; have p3 := cellOf E.bel P3.out hltp; have p4 := cellOf E.bel P4.out hltp; have p5 := cellOf E.bel P5.out hltp; have p6 := cellOf E.bel P6.out hltp)
      go_upto_region 10 with (go_at_call 27; refine (hng _).out.mono ?_; rintro e w9 ⟨rfl, hbb⟩; have H89 := Lib.hid ((E.next hbb).lt 0 (b := w8.heap.size) rfl); replace E := ((E.next hbb).alloc (.cells #[.int .i64 ZH, .int .u64 ZL] 25)).addB (b := w9.heap.size) (v0 := .int .i64 ZH) (v1 := .int .u64 ZL) (zbox_made _ _ _ _); clear hbb; (try clear p0 p1 p2 p3 p4 p5 p6); have p0 := cellOf E.bel P0.out hltp; have p1 := cellOf E.bel P1.out hltp; have p2 := cellOf E.bel P2.out hltp; have p3 := cellOf E.bel P3.out hltp; have p4 := cellOf E.bel P4.out hltp; have p5 := cellOf E.bel P5.out hltp; have p6 := cellOf E.bel P6.out hltp)
      generalize hB8 : w8.heap.size = B8 at *
      generalize hB9 : w9.heap.size = B9 at *
      obtain ⟨W10, hW10⟩ := envZ E
      rw [hW10] at E
      (try rw [hW10])
      clear hW10 hB8 hB9
      (try clear p0 p1 p2 p3 p4 p5 p6)
      obtain ⟨B7, hB7⟩ : ∃ b, w7.heap.size = b := ⟨_, rfl⟩
      rw [hB7] at E ⊢
      refine wp_region_parts2 (w := W10) 32 0 none [] [(fun u _ => u = .agg #[.int .i64 XH, .int .u64 XL]), (fun u _ => u = .int .i64 EX), (fun u _ => u = .agg #[.bool (decide (VA < 0)), .slice a5 (dig 18446744073709551616 (VA).natAbs).length c5]), (fun u _ => u = .agg #[.bool (decide (VB < 0)), .slice a6 (dig 18446744073709551616 (VB).natAbs).length c6]), ((IsZ (S))), (fun u _ => u = .bool true), (fun u _ => u = .bool false), (fun u _ => u = .bool false), (fun u _ => u = .agg #[.int .i64 YH, .int .u64 YL]), (fun u _ => u = .int .i64 EY), (fun u _ => u = .agg #[.bool (decide (VA < 0)), .slice a5 (dig 18446744073709551616 (VA).natAbs).length c5]), (fun u _ => u = .agg #[.bool (decide (VB < 0)), .slice a6 (dig 18446744073709551616 (VB).natAbs).length c6]), ((IsZ (T))), (fun u _ => u = .bool true), (fun u _ => u = .bool false), (fun u _ => u = .bool false), (fun u _ => u = .bool false), (fun u _ => u = .agg #[.int .i64 ZH, .int .u64 ZL]), (fun u _ => u = .int .i64 EZ), (fun u _ => u = .agg #[.bool (decide (VA < 0)), .slice a5 (dig 18446744073709551616 (VA).natAbs).length c5]), ((IsZ (G))), (fun u _ => u = .bool true), (fun u _ => u = .bool false), (fun u _ => u = .bool false), (fun u _ => u = .bool false), (fun u _ => u = .pointer (some ⟨wr.heap.size, 0, none⟩)), (fun u _ => u = .agg #[.int .i64 ah, .int .u64 al]), (fun u _ => u = .string ts), (fun u _ => u = .agg #[.bool (decide (VA < 0)), .slice a5 (dig 18446744073709551616 (VA).natAbs).length c5]), (fun u _ => u = .string ts), (fun u _ => u = .bool false), (fun u _ => u = .bool false)] [some 61, some 62, some 63, some 64, some 65, some 66, some 67, some 68, some 69, some 70, some 71, some 72, some 73, some 74, some 75, some 76, some 77, some 78, some 79, some 80, some 81, some 82, some 83, some 84, some 85, some 86, some 87, some 88, some 89, some 90, some 91, some 92] #[true, true, true, true, true, true, true, true, true, true, true, true, true, true, true, true, true, true, true, true, true, true, true, true, true, true, true, true, true, true, true, true] #[true, true, true, true, true, true, true, true, true, true, true, true, true, true, true, true, true, true, true, true, true, true, true, true, true, true, true, true, true, true, true, true] (by kernel_rfl) rfl (by kernel_rfl) (by kernel_rfl) rfl (by kernel_rfl) (by kernel_rfl) (.cons (carries_eq _) (.cons (carries_eq _) (.cons (carries_eq _) (.cons (carries_eq _) (.cons (isZ_carries _) (.cons (carries_eq _) (.cons (carries_eq _) (.cons (carries_eq _) (.cons (carries_eq _) (.cons (carries_eq _) (.cons (carries_eq _) (.cons (carries_eq _) (.cons (isZ_carries _) (.cons (carries_eq _) (.cons (carries_eq _) (.cons (carries_eq _) (.cons (carries_eq _) (.cons (carries_eq _) (.cons (carries_eq _) (.cons (carries_eq _) (.cons (isZ_carries _) (.cons (carries_eq _) (.cons (carries_eq _) (.cons (carries_eq _) (.cons (carries_eq _) (.cons (carries_eq _) (.cons (carries_eq _) (.cons (carries_eq _) (.cons (carries_eq _) (.cons (carries_eq _) (.cons (carries_eq _) (.cons (carries_eq _) .nil)))))))))))))))))))))))))))))))) (fun vs b hvl hvb => ?_)
      obtain ⟨x0, x1, x2, x3, x4, x5, x6, x7, x8, x9, x10, x11, x12, x13, x14, x15, x16, x17, x18, x19, x20, x21, x22, x23, x24, x25, x26, x27, x28, x29, x30, x31, rfl⟩ : ∃ x0 x1 x2 x3 x4 x5 x6 x7 x8 x9 x10 x11 x12 x13 x14 x15 x16 x17 x18 x19 x20 x21 x22 x23 x24 x25 x26 x27 x28 x29 x30 x31, vs = [x0, x1, x2, x3, x4, x5, x6, x7, x8, x9, x10, x11, x12, x13, x14, x15, x16, x17, x18, x19, x20, x21, x22, x23, x24, x25, x26, x27, x28, x29, x30, x31] := lst32 hvl
      clear hvl
      simp only [putAll, Act.put, List.setIfInBounds_toArray, List.set_cons_zero, List.set_cons_succ] at hvb
      subst hvb
      refine ⟨(.snoc (.snoc (.snoc (.snoc (.snoc (.snoc (.snoc (.snoc (.snoc (.snoc (.snoc (.snoc (.snoc (.snoc (.snoc (.snoc (.snoc (.snoc (.snoc (.snoc (.snoc (.snoc (.snoc (.snoc (.snoc (.snoc (.snoc (.snoc (.snoc (.snoc (.snoc (.snoc .zero (PartOb.intro (d := (some 61)) (r := fun u _ => u = .agg #[.int .i64 XH, .int .u64 XL]) rfl rfl rfl rfl ?po10x0)) (PartOb.intro (d := (some 62)) (r := fun u _ => u = .int .i64 EX) rfl rfl rfl rfl ?po10x1)) (PartOb.intro (d := (some 63)) (r := fun u _ => u = .agg #[.bool (decide (VA < 0)), .slice a5 (dig 18446744073709551616 (VA).natAbs).length c5]) rfl rfl rfl rfl ?po10x2)) (PartOb.intro (d := (some 64)) (r := fun u _ => u = .agg #[.bool (decide (VB < 0)), .slice a6 (dig 18446744073709551616 (VB).natAbs).length c6]) rfl rfl rfl rfl ?po10x3)) (PartOb.intro (d := (some 65)) (r := (IsZ (S))) rfl rfl rfl rfl ?po10x4)) (PartOb.intro (d := (some 66)) (r := fun u _ => u = .bool true) rfl rfl rfl rfl ?po10x5)) (PartOb.intro (d := (some 67)) (r := fun u _ => u = .bool false) rfl rfl rfl rfl ?po10x6)) (PartOb.intro (d := (some 68)) (r := fun u _ => u = .bool false) rfl rfl rfl rfl ?po10x7)) (PartOb.intro (d := (some 69)) (r := fun u _ => u = .agg #[.int .i64 YH, .int .u64 YL]) rfl rfl rfl rfl ?po10x8)) (PartOb.intro (d := (some 70)) (r := fun u _ => u = .int .i64 EY) rfl rfl rfl rfl ?po10x9)) (PartOb.intro (d := (some 71)) (r := fun u _ => u = .agg #[.bool (decide (VA < 0)), .slice a5 (dig 18446744073709551616 (VA).natAbs).length c5]) rfl rfl rfl rfl ?po10x10)) (PartOb.intro (d := (some 72)) (r := fun u _ => u = .agg #[.bool (decide (VB < 0)), .slice a6 (dig 18446744073709551616 (VB).natAbs).length c6]) rfl rfl rfl rfl ?po10x11)) (PartOb.intro (d := (some 73)) (r := (IsZ (T))) rfl rfl rfl rfl ?po10x12)) (PartOb.intro (d := (some 74)) (r := fun u _ => u = .bool true) rfl rfl rfl rfl ?po10x13)) (PartOb.intro (d := (some 75)) (r := fun u _ => u = .bool false) rfl rfl rfl rfl ?po10x14)) (PartOb.intro (d := (some 76)) (r := fun u _ => u = .bool false) rfl rfl rfl rfl ?po10x15)) (PartOb.intro (d := (some 77)) (r := fun u _ => u = .bool false) rfl rfl rfl rfl ?po10x16)) (PartOb.intro (d := (some 78)) (r := fun u _ => u = .agg #[.int .i64 ZH, .int .u64 ZL]) rfl rfl rfl rfl ?po10x17)) (PartOb.intro (d := (some 79)) (r := fun u _ => u = .int .i64 EZ) rfl rfl rfl rfl ?po10x18)) (PartOb.intro (d := (some 80)) (r := fun u _ => u = .agg #[.bool (decide (VA < 0)), .slice a5 (dig 18446744073709551616 (VA).natAbs).length c5]) rfl rfl rfl rfl ?po10x19)) (PartOb.intro (d := (some 81)) (r := (IsZ (G))) rfl rfl rfl rfl ?po10x20)) (PartOb.intro (d := (some 82)) (r := fun u _ => u = .bool true) rfl rfl rfl rfl ?po10x21)) (PartOb.intro (d := (some 83)) (r := fun u _ => u = .bool false) rfl rfl rfl rfl ?po10x22)) (PartOb.intro (d := (some 84)) (r := fun u _ => u = .bool false) rfl rfl rfl rfl ?po10x23)) (PartOb.intro (d := (some 85)) (r := fun u _ => u = .bool false) rfl rfl rfl rfl ?po10x24)) (PartOb.intro (d := (some 86)) (r := fun u _ => u = .pointer (some ⟨wr.heap.size, 0, none⟩)) rfl rfl rfl rfl ?po10x25)) (PartOb.intro (d := (some 87)) (r := fun u _ => u = .agg #[.int .i64 ah, .int .u64 al]) rfl rfl rfl rfl ?po10x26)) (PartOb.intro (d := (some 88)) (r := fun u _ => u = .string ts) rfl rfl rfl rfl ?po10x27)) (PartOb.intro (d := (some 89)) (r := fun u _ => u = .agg #[.bool (decide (VA < 0)), .slice a5 (dig 18446744073709551616 (VA).natAbs).length c5]) rfl rfl rfl rfl ?po10x28)) (PartOb.intro (d := (some 90)) (r := fun u _ => u = .string ts) rfl rfl rfl rfl ?po10x29)) (PartOb.intro (d := (some 91)) (r := fun u _ => u = .bool false) rfl rfl rfl rfl ?po10x30)) (PartOb.intro (d := (some 92)) (r := fun u _ => u = .bool false) rfl rfl rfl rfl ?po10x31)), ?pend10, ?pfl10⟩
      case po10x0 =>
        intro w1 hb1 hd KK hK
        clear hd
        obtain ⟨l2c0, l2c1, l2f0, l2f1⟩ := (E.next hb1).box 2 (b := B7) (v0 := .int .i64 XH) (v1 := .int .u64 XL) rfl
        simp only [Act.put, List.setIfInBounds_toArray, List.set_cons_zero, List.set_cons_succ] at hK
        go_simp
        first | exact hK.out _ _ (Below.refl _ _) rfl | (have hk := hK.out _ _ (Below.refl _ _) rfl; revert hk; go_simp)
      case po10x1 =>
        intro w1 hb1 hd KK hK
        clear hd
        simp only [Act.put, List.setIfInBounds_toArray, List.set_cons_zero, List.set_cons_succ] at hK
        go_simp
        first | exact hK.out _ _ (Below.refl _ _) rfl | (have hk := hK.out _ _ (Below.refl _ _) rfl; revert hk; go_simp)
      case po10x2 =>
        intro w1 hb1 hd KK hK
        clear hd
        obtain ⟨l4c0, l4c1, l4f0, l4f1⟩ := (E.next hb1).box 4 (b := B5) (v0 := .bool (decide (VA < 0))) (v1 := .slice a5 (dig 18446744073709551616 (VA).natAbs).length c5) rfl
        simp only [Act.put, List.setIfInBounds_toArray, List.set_cons_zero, List.set_cons_succ] at hK
        go_simp
        first | exact hK.out _ _ (Below.refl _ _) rfl | (have hk := hK.out _ _ (Below.refl _ _) rfl; revert hk; go_simp)
      case po10x3 =>
        intro w1 hb1 hd KK hK
        clear hd
        obtain ⟨l3c0, l3c1, l3f0, l3f1⟩ := (E.next hb1).box 3 (b := B6) (v0 := .bool (decide (VB < 0))) (v1 := .slice a6 (dig 18446744073709551616 (VB).natAbs).length c6) rfl
        simp only [Act.put, List.setIfInBounds_toArray, List.set_cons_zero, List.set_cons_succ] at hK
        go_simp
        first | exact hK.out _ _ (Below.refl _ _) rfl | (have hk := hK.out _ _ (Below.refl _ _) rfl; revert hk; go_simp)
      case po10x4 =>
        intro w1 hb1 hd KK hK
        have d2 : x2 = .agg #[.bool (decide (VA < 0)), .slice a5 (dig 18446744073709551616 (VA).natAbs).length c5] := hd 2 (by kernel_rfl)
        have d3 : x3 = .agg #[.bool (decide (VB < 0)), .slice a6 (dig 18446744073709551616 (VB).natAbs).length c6] := hd 3 (by kernel_rfl)
        clear hd
        subst d2
        subst d3
        simp only [Act.put, List.setIfInBounds_toArray, List.set_cons_zero, List.set_cons_succ] at hK
        go_simp
        go_at_call 37
        refine (hPL _ _ _ _ _ ((E.next hb1).num 1 rfl) ((E.next hb1).num 0 rfl)).out.mono ?_
        rintro e w2 ⟨a2, c2, rfl, hN2, hb2⟩
        (try go_wp2_with fail)
        first | exact hK.out _ _ hb2 ⟨a2, c2, rfl, hN2⟩ | (have hk := hK.out _ _ hb2 ⟨a2, c2, rfl, hN2⟩; revert hk; go_simp)
      case po10x5 =>
        intro w1 hb1 hd KK hK
        have d0 : x0 = .agg #[.int .i64 XH, .int .u64 XL] := hd 0 (by kernel_rfl)
        have d1 : x1 = .int .i64 EX := hd 1 (by kernel_rfl)
        have d4 : (IsZ (S)) x4 w1 := hd 4 (by kernel_rfl)
        clear hd
        subst d0
        subst d1
        obtain ⟨a4x, e4x, rfl, hN4⟩ := d4
        simp only [Act.put, List.setIfInBounds_toArray, List.set_cons_zero, List.set_cons_succ] at hK
        go_simp
        go_at_call 16
        refine (hi1 _ _ _ hN4).out.mono ?_
        rintro e w2 ⟨rfl, hb2⟩
        (try go_wp2_with fail)
        first | exact hK.out _ _ hb2 rfl | (have hk := hK.out _ _ hb2 rfl; revert hk; go_simp)
      case po10x6 =>
        intro w1 hb1 hd KK hK
        have d5 : x5 = .bool true := hd 5 (by kernel_rfl)
        clear hd
        subst d5
        simp only [Act.put, List.setIfInBounds_toArray, List.set_cons_zero, List.set_cons_succ] at hK
        go_simp
        first | exact hK.out _ _ (Below.refl _ _) rfl | (have hk := hK.out _ _ (Below.refl _ _) rfl; revert hk; go_simp)
      case po10x7 =>
        intro w1 hb1 hd KK hK
        have d5 : x5 = .bool true := hd 5 (by kernel_rfl)
        have d6 : x6 = .bool false := hd 6 (by kernel_rfl)
        clear hd
        subst d5
        subst d6
        simp only [Act.put, List.setIfInBounds_toArray, List.set_cons_zero, List.set_cons_succ] at hK
        go_simp
        first | exact hK.out _ _ (Below.refl _ _) rfl | (have hk := hK.out _ _ (Below.refl _ _) rfl; revert hk; go_simp)
      case po10x8 =>
        intro w1 hb1 hd KK hK
        have d7 : x7 = .bool false := hd 7 (by kernel_rfl)
        clear hd
        subst d7
        obtain ⟨l1c0, l1c1, l1f0, l1f1⟩ := (E.next hb1).box 1 (b := B8) (v0 := .int .i64 YH) (v1 := .int .u64 YL) rfl
        simp only [Act.put, List.setIfInBounds_toArray, List.set_cons_zero, List.set_cons_succ] at hK
        go_simp
        first | exact hK.out _ _ (Below.refl _ _) rfl | (have hk := hK.out _ _ (Below.refl _ _) rfl; revert hk; go_simp)
      case po10x9 =>
        intro w1 hb1 hd KK hK
        have d7 : x7 = .bool false := hd 7 (by kernel_rfl)
        clear hd
        subst d7
        simp only [Act.put, List.setIfInBounds_toArray, List.set_cons_zero, List.set_cons_succ] at hK
        go_simp
        first | exact hK.out _ _ (Below.refl _ _) rfl | (have hk := hK.out _ _ (Below.refl _ _) rfl; revert hk; go_simp)
      case po10x10 =>
        intro w1 hb1 hd KK hK
        have d7 : x7 = .bool false := hd 7 (by kernel_rfl)
        clear hd
        subst d7
        obtain ⟨l4c0, l4c1, l4f0, l4f1⟩ := (E.next hb1).box 4 (b := B5) (v0 := .bool (decide (VA < 0))) (v1 := .slice a5 (dig 18446744073709551616 (VA).natAbs).length c5) rfl
        simp only [Act.put, List.setIfInBounds_toArray, List.set_cons_zero, List.set_cons_succ] at hK
        go_simp
        first | exact hK.out _ _ (Below.refl _ _) rfl | (have hk := hK.out _ _ (Below.refl _ _) rfl; revert hk; go_simp)
      case po10x11 =>
        intro w1 hb1 hd KK hK
        have d7 : x7 = .bool false := hd 7 (by kernel_rfl)
        clear hd
        subst d7
        obtain ⟨l3c0, l3c1, l3f0, l3f1⟩ := (E.next hb1).box 3 (b := B6) (v0 := .bool (decide (VB < 0))) (v1 := .slice a6 (dig 18446744073709551616 (VB).natAbs).length c6) rfl
        simp only [Act.put, List.setIfInBounds_toArray, List.set_cons_zero, List.set_cons_succ] at hK
        go_simp
        first | exact hK.out _ _ (Below.refl _ _) rfl | (have hk := hK.out _ _ (Below.refl _ _) rfl; revert hk; go_simp)
      case po10x12 =>
        intro w1 hb1 hd KK hK
        have d7 : x7 = .bool false := hd 7 (by kernel_rfl)
        have d10 : x10 = .agg #[.bool (decide (VA < 0)), .slice a5 (dig 18446744073709551616 (VA).natAbs).length c5] := hd 10 (by kernel_rfl)
        have d11 : x11 = .agg #[.bool (decide (VB < 0)), .slice a6 (dig 18446744073709551616 (VB).natAbs).length c6] := hd 11 (by kernel_rfl)
        clear hd
        subst d7
        subst d10
        subst d11
        simp only [Act.put, List.setIfInBounds_toArray, List.set_cons_zero, List.set_cons_succ] at hK
        go_simp
        go_at_call 21
        refine (hLS _ _ _ _ _ ((E.next hb1).num 1 rfl) ((E.next hb1).num 0 rfl)).out.mono ?_
        rintro e w2 ⟨a2, c2, rfl, hN2, hb2⟩
        (try go_wp2_with fail)
        first | exact hK.out _ _ hb2 ⟨a2, c2, rfl, hN2⟩ | (have hk := hK.out _ _ hb2 ⟨a2, c2, rfl, hN2⟩; revert hk; go_simp)
      case po10x13 =>
        intro w1 hb1 hd KK hK
        have d7 : x7 = .bool false := hd 7 (by kernel_rfl)
        have d8 : x8 = .agg #[.int .i64 YH, .int .u64 YL] := hd 8 (by kernel_rfl)
        have d9 : x9 = .int .i64 EY := hd 9 (by kernel_rfl)
        have d12 : (IsZ (T)) x12 w1 := hd 12 (by kernel_rfl)
        clear hd
        subst d7
        subst d8
        subst d9
        obtain ⟨a12x, e12x, rfl, hN12⟩ := d12
        simp only [Act.put, List.setIfInBounds_toArray, List.set_cons_zero, List.set_cons_succ] at hK
        go_simp
        go_at_call 16
        refine (hi2 _ _ _ hN12).out.mono ?_
        rintro e w2 ⟨rfl, hb2⟩
        (try go_wp2_with fail)
        first | exact hK.out _ _ hb2 rfl | (have hk := hK.out _ _ hb2 rfl; revert hk; go_simp)
      case po10x14 =>
        intro w1 hb1 hd KK hK
        have d7 : x7 = .bool false := hd 7 (by kernel_rfl)
        have d13 : x13 = .bool true := hd 13 (by kernel_rfl)
        clear hd
        subst d7
        subst d13
        simp only [Act.put, List.setIfInBounds_toArray, List.set_cons_zero, List.set_cons_succ] at hK
        go_simp
        first | exact hK.out _ _ (Below.refl _ _) rfl | (have hk := hK.out _ _ (Below.refl _ _) rfl; revert hk; go_simp)
      case po10x15 =>
        intro w1 hb1 hd KK hK
        have d7 : x7 = .bool false := hd 7 (by kernel_rfl)
        have d14 : x14 = .bool false := hd 14 (by kernel_rfl)
        clear hd
        subst d7
        subst d14
        simp only [Act.put, List.setIfInBounds_toArray, List.set_cons_zero, List.set_cons_succ] at hK
        go_simp
        first | exact hK.out _ _ (Below.refl _ _) rfl | (have hk := hK.out _ _ (Below.refl _ _) rfl; revert hk; go_simp)
      case po10x16 =>
        intro w1 hb1 hd KK hK
        have d13 : x13 = .bool true := hd 13 (by kernel_rfl)
        have d15 : x15 = .bool false := hd 15 (by kernel_rfl)
        clear hd
        subst d13
        subst d15
        simp only [Act.put, List.setIfInBounds_toArray, List.set_cons_zero, List.set_cons_succ] at hK
        go_simp
        first | exact hK.out _ _ (Below.refl _ _) rfl | (have hk := hK.out _ _ (Below.refl _ _) rfl; revert hk; go_simp)
      case po10x17 =>
        intro w1 hb1 hd KK hK
        have d16 : x16 = .bool false := hd 16 (by kernel_rfl)
        clear hd
        subst d16
        obtain ⟨l0c0, l0c1, l0f0, l0f1⟩ := (E.next hb1).box 0 (b := B9) (v0 := .int .i64 ZH) (v1 := .int .u64 ZL) rfl
        simp only [Act.put, List.setIfInBounds_toArray, List.set_cons_zero, List.set_cons_succ] at hK
        go_simp
        first | exact hK.out _ _ (Below.refl _ _) rfl | (have hk := hK.out _ _ (Below.refl _ _) rfl; revert hk; go_simp)
      case po10x18 =>
        intro w1 hb1 hd KK hK
        have d16 : x16 = .bool false := hd 16 (by kernel_rfl)
        clear hd
        subst d16
        simp only [Act.put, List.setIfInBounds_toArray, List.set_cons_zero, List.set_cons_succ] at hK
        go_simp
        first | exact hK.out _ _ (Below.refl _ _) rfl | (have hk := hK.out _ _ (Below.refl _ _) rfl; revert hk; go_simp)
      case po10x19 =>
        intro w1 hb1 hd KK hK
        have d16 : x16 = .bool false := hd 16 (by kernel_rfl)
        clear hd
        subst d16
        obtain ⟨l4c0, l4c1, l4f0, l4f1⟩ := (E.next hb1).box 4 (b := B5) (v0 := .bool (decide (VA < 0))) (v1 := .slice a5 (dig 18446744073709551616 (VA).natAbs).length c5) rfl
        simp only [Act.put, List.setIfInBounds_toArray, List.set_cons_zero, List.set_cons_succ] at hK
        go_simp
        first | exact hK.out _ _ (Below.refl _ _) rfl | (have hk := hK.out _ _ (Below.refl _ _) rfl; revert hk; go_simp)
      case po10x20 =>
        intro w1 hb1 hd KK hK
        have d16 : x16 = .bool false := hd 16 (by kernel_rfl)
        have d19 : x19 = .agg #[.bool (decide (VA < 0)), .slice a5 (dig 18446744073709551616 (VA).natAbs).length c5] := hd 19 (by kernel_rfl)
        clear hd
        subst d16
        subst d19
        simp only [Act.put, List.setIfInBounds_toArray, List.set_cons_zero, List.set_cons_succ] at hK
        go_simp
        go_at_call 38
        refine (hNG _ _ _ ((E.next hb1).num 1 rfl)).out.mono ?_
        rintro e w2 ⟨a2, c2, rfl, hN2, hb2⟩
        (try go_wp2_with fail)
        first | exact hK.out _ _ hb2 ⟨a2, c2, rfl, hN2⟩ | (have hk := hK.out _ _ hb2 ⟨a2, c2, rfl, hN2⟩; revert hk; go_simp)
      case po10x21 =>
        intro w1 hb1 hd KK hK
        have d16 : x16 = .bool false := hd 16 (by kernel_rfl)
        have d17 : x17 = .agg #[.int .i64 ZH, .int .u64 ZL] := hd 17 (by kernel_rfl)
        have d18 : x18 = .int .i64 EZ := hd 18 (by kernel_rfl)
        have d20 : (IsZ (G)) x20 w1 := hd 20 (by kernel_rfl)
        clear hd
        subst d16
        subst d17
        subst d18
        obtain ⟨a20x, e20x, rfl, hN20⟩ := d20
        simp only [Act.put, List.setIfInBounds_toArray, List.set_cons_zero, List.set_cons_succ] at hK
        go_simp
        go_at_call 16
        refine (hi3 _ _ _ hN20).out.mono ?_
        rintro e w2 ⟨rfl, hb2⟩
        (try go_wp2_with fail)
        first | exact hK.out _ _ hb2 rfl | (have hk := hK.out _ _ hb2 rfl; revert hk; go_simp)
      case po10x22 =>
        intro w1 hb1 hd KK hK
        have d16 : x16 = .bool false := hd 16 (by kernel_rfl)
        have d21 : x21 = .bool true := hd 21 (by kernel_rfl)
        clear hd
        subst d16
        subst d21
        simp only [Act.put, List.setIfInBounds_toArray, List.set_cons_zero, List.set_cons_succ] at hK
        go_simp
        first | exact hK.out _ _ (Below.refl _ _) rfl | (have hk := hK.out _ _ (Below.refl _ _) rfl; revert hk; go_simp)
      case po10x23 =>
        intro w1 hb1 hd KK hK
        have d16 : x16 = .bool false := hd 16 (by kernel_rfl)
        have d22 : x22 = .bool false := hd 22 (by kernel_rfl)
        clear hd
        subst d16
        subst d22
        simp only [Act.put, List.setIfInBounds_toArray, List.set_cons_zero, List.set_cons_succ] at hK
        go_simp
        first | exact hK.out _ _ (Below.refl _ _) rfl | (have hk := hK.out _ _ (Below.refl _ _) rfl; revert hk; go_simp)
      case po10x24 =>
        intro w1 hb1 hd KK hK
        have d21 : x21 = .bool true := hd 21 (by kernel_rfl)
        have d23 : x23 = .bool false := hd 23 (by kernel_rfl)
        clear hd
        subst d21
        subst d23
        simp only [Act.put, List.setIfInBounds_toArray, List.set_cons_zero, List.set_cons_succ] at hK
        go_simp
        first | exact hK.out _ _ (Below.refl _ _) rfl | (have hk := hK.out _ _ (Below.refl _ _) rfl; revert hk; go_simp)
      case po10x25 =>
        intro w1 hb1 hd KK hK
        have d24 : x24 = .bool false := hd 24 (by kernel_rfl)
        clear hd
        subst d24
        simp only [Act.put, List.setIfInBounds_toArray, List.set_cons_zero, List.set_cons_succ] at hK
        go_simp
        first | exact hK.out _ _ (Below.refl _ _) rfl | (have hk := hK.out _ _ (Below.refl _ _) rfl; revert hk; go_simp)
      case po10x26 =>
        intro w1 hb1 hd KK hK
        have d24 : x24 = .bool false := hd 24 (by kernel_rfl)
        have d25 : x25 = .pointer (some ⟨wr.heap.size, 0, none⟩) := hd 25 (by kernel_rfl)
        clear hd
        subst d24
        subst d25
        have q0 := cellOf (E.next hb1).bel P0.out (by rw [← hB7]; exact hltp)
        have q1 := cellOf (E.next hb1).bel P1.out (by rw [← hB7]; exact hltp)
        simp only [Act.put, List.setIfInBounds_toArray, List.set_cons_zero, List.set_cons_succ] at hK
        go_simp
        first | exact hK.out _ _ (Below.refl _ _) rfl | (have hk := hK.out _ _ (Below.refl _ _) rfl; revert hk; go_simp)
      case po10x27 =>
        intro w1 hb1 hd KK hK
        have d24 : x24 = .bool false := hd 24 (by kernel_rfl)
        have d26 : x26 = .agg #[.int .i64 ah, .int .u64 al] := hd 26 (by kernel_rfl)
        clear hd
        subst d24
        subst d26
        simp only [Act.put, List.setIfInBounds_toArray, List.set_cons_zero, List.set_cons_succ] at hK
        go_simp
        go_at_call 39
        refine (hwt _).out.mono ?_
        rintro e w2 ⟨rfl, hb2⟩
        (try go_wp2_with fail)
        first | exact hK.out _ _ hb2 rfl | (have hk := hK.out _ _ hb2 rfl; revert hk; go_simp)
      case po10x28 =>
        intro w1 hb1 hd KK hK
        have d24 : x24 = .bool false := hd 24 (by kernel_rfl)
        clear hd
        subst d24
        obtain ⟨l4c0, l4c1, l4f0, l4f1⟩ := (E.next hb1).box 4 (b := B5) (v0 := .bool (decide (VA < 0))) (v1 := .slice a5 (dig 18446744073709551616 (VA).natAbs).length c5) rfl
        simp only [Act.put, List.setIfInBounds_toArray, List.set_cons_zero, List.set_cons_succ] at hK
        go_simp
        first | exact hK.out _ _ (Below.refl _ _) rfl | (have hk := hK.out _ _ (Below.refl _ _) rfl; revert hk; go_simp)
      case po10x29 =>
        intro w1 hb1 hd KK hK
        have d24 : x24 = .bool false := hd 24 (by kernel_rfl)
        have d27 : x27 = .string ts := hd 27 (by kernel_rfl)
        have d28 : x28 = .agg #[.bool (decide (VA < 0)), .slice a5 (dig 18446744073709551616 (VA).natAbs).length c5] := hd 28 (by kernel_rfl)
        clear hd
        subst d24
        subst d27
        subst d28
        simp only [Act.put, List.setIfInBounds_toArray, List.set_cons_zero, List.set_cons_succ] at hK
        go_simp
        go_at_call 40
        refine (hzt _ _ _ ((E.next hb1).num 1 rfl)).out.mono ?_
        rintro e w2 ⟨rfl, hb2⟩
        (try go_wp2_with fail)
        first | exact hK.out _ _ hb2 rfl | (have hk := hK.out _ _ hb2 rfl; revert hk; go_simp)
      case po10x30 =>
        intro w1 hb1 hd KK hK
        have d24 : x24 = .bool false := hd 24 (by kernel_rfl)
        have d27 : x27 = .string ts := hd 27 (by kernel_rfl)
        have d29 : x29 = .string ts := hd 29 (by kernel_rfl)
        clear hd
        subst d24
        subst d27
        subst d29
        simp only [Act.put, List.setIfInBounds_toArray, List.set_cons_zero, List.set_cons_succ] at hK
        go_simp
        first | exact hK.out _ _ (Below.refl _ _) rfl | (have hk := hK.out _ _ (Below.refl _ _) rfl; revert hk; go_simp)
      case po10x31 =>
        intro w1 hb1 hd KK hK
        have d24 : x24 = .bool false := hd 24 (by kernel_rfl)
        have d30 : x30 = .bool false := hd 30 (by kernel_rfl)
        clear hd
        subst d24
        subst d30
        simp only [Act.put, List.setIfInBounds_toArray, List.set_cons_zero, List.set_cons_succ] at hK
        go_simp
        first | exact hK.out _ _ (Below.refl _ _) rfl | (have hk := hK.out _ _ (Below.refl _ _) rfl; revert hk; go_simp)
      case pfl10 => (intro f hf; cases hf)
      case pend10 =>
      intro w1 hb1 hR hD
      have d0 : x0 = .agg #[.int .i64 XH, .int .u64 XL] := hR 0 (by decide)
      have d1 : x1 = .int .i64 EX := hR 1 (by decide)
      have d2 : x2 = .agg #[.bool (decide (VA < 0)), .slice a5 (dig 18446744073709551616 (VA).natAbs).length c5] := hR 2 (by decide)
      have d3 : x3 = .agg #[.bool (decide (VB < 0)), .slice a6 (dig 18446744073709551616 (VB).natAbs).length c6] := hR 3 (by decide)
      have d4 : (IsZ (S)) x4 w1 := hR 4 (by decide)
      have d5 : x5 = .bool true := hR 5 (by decide)
      have d6 : x6 = .bool false := hR 6 (by decide)
      have d7 : x7 = .bool false := hR 7 (by decide)
      have d8 : x8 = .agg #[.int .i64 YH, .int .u64 YL] := hR 8 (by decide)
      have d9 : x9 = .int .i64 EY := hR 9 (by decide)
      have d10 : x10 = .agg #[.bool (decide (VA < 0)), .slice a5 (dig 18446744073709551616 (VA).natAbs).length c5] := hR 10 (by decide)
      have d11 : x11 = .agg #[.bool (decide (VB < 0)), .slice a6 (dig 18446744073709551616 (VB).natAbs).length c6] := hR 11 (by decide)
      have d12 : (IsZ (T)) x12 w1 := hR 12 (by decide)
      have d13 : x13 = .bool true := hR 13 (by decide)
      have d14 : x14 = .bool false := hR 14 (by decide)
      have d15 : x15 = .bool false := hR 15 (by decide)
      have d16 : x16 = .bool false := hR 16 (by decide)
      have d17 : x17 = .agg #[.int .i64 ZH, .int .u64 ZL] := hR 17 (by decide)
      have d18 : x18 = .int .i64 EZ := hR 18 (by decide)
      have d19 : x19 = .agg #[.bool (decide (VA < 0)), .slice a5 (dig 18446744073709551616 (VA).natAbs).length c5] := hR 19 (by decide)
      have d20 : (IsZ (G)) x20 w1 := hR 20 (by decide)
      have d21 : x21 = .bool true := hR 21 (by decide)
      have d22 : x22 = .bool false := hR 22 (by decide)
      have d23 : x23 = .bool false := hR 23 (by decide)
      have d24 : x24 = .bool false := hR 24 (by decide)
      have d25 : x25 = .pointer (some ⟨wr.heap.size, 0, none⟩) := hR 25 (by decide)
      have d26 : x26 = .agg #[.int .i64 ah, .int .u64 al] := hR 26 (by decide)
      have d27 : x27 = .string ts := hR 27 (by decide)
      have d28 : x28 = .agg #[.bool (decide (VA < 0)), .slice a5 (dig 18446744073709551616 (VA).natAbs).length c5] := hR 28 (by decide)
      have d29 : x29 = .string ts := hR 29 (by decide)
      have d30 : x30 = .bool false := hR 30 (by decide)
      have d31 : x31 = .bool false := hR 31 (by decide)
      clear hR hD
      subst d0
      subst d1
      subst d2
      subst d3
      obtain ⟨a4x, e4x, rfl, hN4⟩ := d4
      subst d5
      subst d6
      subst d7
      subst d8
      subst d9
      subst d10
      subst d11
      obtain ⟨a12x, e12x, rfl, hN12⟩ := d12
      subst d13
      subst d14
      subst d15
      subst d16
      subst d17
      subst d18
      subst d19
      obtain ⟨a20x, e20x, rfl, hN20⟩ := d20
      subst d21
      subst d22
      subst d23
      subst d24
      subst d25
      subst d26
      subst d27
      subst d28
      subst d29
      subst d30
      subst d31
      refine wpAny_done (by kernel_rfl) ?_ _
      replace E := E.next hb1
      have hb1' := True.intro
      clear hN4 hN12 hN20 hb1
      go_upto_region 14 with fail
      have H914 := Lib.hid (E.lt 0 (b := B9) rfl)
      replace E := (E.alloc (.cells #[.bool false, .slice none 0 0] 31)).addB (b := w1.heap.size) (v0 := .bool false) (v1 := .slice none 0 0) (zbox_made _ _ _ _)
      generalize hB14 : w1.heap.size = B14 at *
      obtain ⟨W14, hW14⟩ := envZ E
      rw [hW14] at E
      (try rw [hW14])
      clear hW14 hB14
      have H97 := Lib.hid (E.lt 0 (b := B14) rfl)
      rw [hB7] at hltp HA7N HB7N
      have HNE : Hid (B14 ≠ B9 ∧ B14 ≠ B8 ∧ B14 ≠ B7 ∧ B14 ≠ B6 ∧ B14 ≠ B5 ∧ B7 ≤ B14) := Lib.hid (by have h1 := H67.out; have h2 := H57.out; have h3 := H78.out; have h4 := H89.out; have h5 := H914.out; omega)
      have HN7 : Hid (B14 ≠ B7 ∧ B9 ≠ B7 ∧ B8 ≠ B7 ∧ B6 ≠ B7 ∧ B5 ≠ B7) := Lib.hid (by have h1 := H67.out; have h2 := H57.out; have h3 := H78.out; have h4 := H89.out; have h5 := H914.out; omega)
      clear H56 H67 H57 H78 H89 H914 H97
      have HB7E := Lib.hid hB7
      clear hB7
      have p6 := cellOf E.bel P6.out hltp
      go_cut [100] from 93 to 100 (fun s100 wx => ∃ bq : Bool, s100 = .bool bq ∧ (bq = true → m < 0 ∨ 126 < m) ∧ (bq = false → 0 ≤ m ∧ m ≤ 126) ∧ wx = W14)
      case first =>
        clear hIA hIB had hsb hng hwt hzt hsg hcm hPL hLS hNG hZS hZC hml hi5 hZT hfx hfy hwf hrf hLB hLG hLZ hi1 hi2 hi3 E hsm hzm P0 P1 P2 P3 P4 P5 P6
        by_cases hm0 : m < 0
        · go_wp2_with fail
          go_meet
          exact ⟨true, rfl, fun _ => .inl hm0, (fun h => by cases h), rfl⟩
        · by_cases hm1 : 126 < m
          · go_wp2_with fail
            go_meet
            exact ⟨true, rfl, fun _ => .inr hm1, (fun h => by cases h), rfl⟩
          · go_wp2_with fail
            go_meet
            exact ⟨false, rfl, (fun h => by cases h), fun _ => ⟨by omega, by omega⟩, rfl⟩
      case rest =>
        obtain ⟨bq, rfl, hq1, hq2, hwc⟩ := hcut
        subst hwc
        obtain ⟨W15, hW15⟩ := envZ E
        rw [hW15] at E ⊢
        clear hW15 p6
        have HQ1 := Lib.hid hq1
        have HQ2 := Lib.hid hq2
        clear hq1 hq2
        go_upto_if 100 with fail
        go_cut [13] from 93 to 104 (fun s13 wx => ∃ (LH LL LE BD Q : Int) (a16 : Option Addr) (c16 : Nat), s13 = .int .i64 BD ∧ (∀ w, Hid (Calls Try.prog 30 #[.agg #[.int .i64 ah, .int .u64 al], .int .i64 m] w (RetWE w LH LL LE))) ∧ (∀ a c w, NAt w w.heap.size a c Q.natAbs → Hid (Calls Try.prog 16 #[.agg #[.int .i64 LH, .int .u64 LL], .int .i64 LE, .int .i64 BD, .agg #[.bool (decide (Q < 0)), .slice a (dig 18446744073709551616 Q.natAbs).length c]] w fun e w' => e = .returned (.bool true) ∧ Below w.heap.size w w')) ∧ Hid (Fresh (B7 + 1) a16) ∧ ZEnv B7 w7 wx [(B14, .bool (decide (Q < 0)), .slice a16 (dig 18446744073709551616 (Q).natAbs).length c16), (B9, .int .i64 ZH, .int .u64 ZL), (B8, .int .i64 YH, .int .u64 YL), (B7, .int .i64 XH, .int .u64 XL), (B6, .bool (decide (VB < 0)), .slice a6 (dig 18446744073709551616 (VB).natAbs).length c6), (B5, .bool (decide (VA < 0)), .slice a5 (dig 18446744073709551616 (VA).natAbs).length c5)] [(a16, c16, Q.natAbs), (a6, c6, VB.natAbs), (a5, c5, VA.natAbs)])
        case first =>
          clear hIA hIB had hsb hng hwt hzt hsg hcm hPL hLS hNG hZS hZC hml hi5 hZT hfx hfy hwf hrf hi1 hi2 hi3 hsm hzm P0 P1 P2 P3 P4 P5
          cases bq with
          | true =>
            have hmb := HQ1.out rfl
            go_wp2_with fail
            go_meet
            exact ⟨0, 0, 1, 1, 0, none, 0, rfl, fun w => hLB w hmb, fun a c w _ => Lib.hid (is_bad a c 0 1 w (by decide)), Lib.hid (fresh_none _), E.addN (nat_zero _ _)⟩
          | false =>
            have hmg := HQ2.out rfl
            obtain ⟨n, rfl⟩ : ∃ n : Nat, m = (n : Int) := ⟨m.toNat, by omega⟩
            have hn126 : n ≤ 126 := by omega
            obtain ⟨LH, LL, LE, hlf0, hi40⟩ := (hLG n hn126).out
            have hLQ := fun a c w h => Lib.hid ((hLZ a c n w h hn126).out)
            obtain ⟨Q, hQ⟩ : ∃ z, VA * 2 ^ n = z := ⟨_, rfl⟩
            rw [hQ] at hi40 hLQ
            have HI4 := Lib.hid hi40
            have HLF := Lib.hid hlf0
            clear hlf0 hi40 hLB hLG hLZ hQ hn126 hmg HQ1 HQ2
            obtain ⟨k0c0, k0c1, k0f0, k0f1⟩ := E.box 0 (b := B14) (v0 := .bool false) (v1 := .slice none 0 0) rfl; obtain ⟨k5c0, k5c1, k5f0, k5f1⟩ := E.box 5 (b := B5) (v0 := .bool (decide (VA < 0))) (v1 := .slice a5 (dig 18446744073709551616 (VA).natAbs).length c5) rfl
            have p6 := cellOf E.bel P6.out hltp
            go_wp2_with (go_at_call 24; refine (hLQ _ _ _ (E.num 1 rfl)).out.mono ?_; rintro e w16 ⟨a16, c16, rfl, hN16, hb16, hF16⟩; have HF16 := Lib.hid (hF16.mono (B' := B7 + 1) (E.lt 3 (b := B7) rfl)); replace E := (E.next hb16).addN hN16; clear hN16 hb16 hF16; (try clear k0c0 k0c1 k0f0 k0f1); (try clear k1c0 k1c1 k1f0 k1f1); (try clear k2c0 k2c1 k2f0 k2f1); (try clear k3c0 k3c1 k3f0 k3f1); (try clear k4c0 k4c1 k4f0 k4f1); (try clear k5c0 k5c1 k5f0 k5f1); obtain ⟨k0c0, k0c1, k0f0, k0f1⟩ := E.box 0 (b := B14) (v0 := .bool false) (v1 := .slice none 0 0) rfl; obtain ⟨k5c0, k5c1, k5f0, k5f1⟩ := E.box 5 (b := B5) (v0 := .bool (decide (VA < 0))) (v1 := .slice a5 (dig 18446744073709551616 (VA).natAbs).length c5) rfl)
            go_meet
            refine ⟨LH, LL, LE, 0, Q, a16, c16, rfl, fun w => Lib.hid (HLF.out w), fun a c w h => Lib.hid (HI4.out a c w h), HF16, E.store (by
              intro p hp; simp only [List.mem_cons, List.not_mem_nil, or_false] at hp
              have n9 := HNE.out; rcases hp with rfl | rfl | rfl | rfl | rfl <;> (dsimp only; omega)) HNE.out.2.2.2.2.2 bool_int slice_int _ _⟩
        case rest =>
          obtain ⟨LH, LL, LE, BD, Q, a16, c16, rfl, hlf, hi4, HF16, E⟩ := hcut
          obtain ⟨W16, hW16⟩ := envZ E
          rw [hW16] at E ⊢
          clear hW16 hLB hLG hLZ HQ1 HQ2 HNE
          have p0 := cellOf E.bel P0.out hltp
          have p1 := cellOf E.bel P1.out hltp
          have p2 := cellOf E.bel P2.out hltp
          have p3 := cellOf E.bel P3.out hltp
          have p4 := cellOf E.bel P4.out hltp
          have p5 := cellOf E.bel P5.out hltp
          have p6 := cellOf E.bel P6.out hltp
          obtain ⟨k0c0, k0c1, k0f0, k0f1⟩ := E.box 0 (b := B14) (v0 := .bool (decide (Q < 0))) (v1 := .slice a16 (dig 18446744073709551616 (Q).natAbs).length c16) rfl; obtain ⟨k1c0, k1c1, k1f0, k1f1⟩ := E.box 1 (b := B9) (v0 := .int .i64 ZH) (v1 := .int .u64 ZL) rfl; obtain ⟨k2c0, k2c1, k2f0, k2f1⟩ := E.box 2 (b := B8) (v0 := .int .i64 YH) (v1 := .int .u64 YL) rfl; obtain ⟨k3c0, k3c1, k3f0, k3f1⟩ := E.box 3 (b := B7) (v0 := .int .i64 XH) (v1 := .int .u64 XL) rfl; obtain ⟨k4c0, k4c1, k4f0, k4f1⟩ := E.box 4 (b := B6) (v0 := .bool (decide (VB < 0))) (v1 := .slice a6 (dig 18446744073709551616 (VB).natAbs).length c6) rfl; obtain ⟨k5c0, k5c1, k5f0, k5f1⟩ := E.box 5 (b := B5) (v0 := .bool (decide (VA < 0))) (v1 := .slice a5 (dig 18446744073709551616 (VA).natAbs).length c5) rfl
          go_upto_region 18 with (go_at_call 30; refine (hlf _).out.mono ?_; rintro e w17 ⟨rfl, hbb⟩; replace E := E.next hbb; clear hbb; (try clear p0 p1 p2 p3 p4 p5 p6); have p0 := cellOf E.bel P0.out hltp; have p1 := cellOf E.bel P1.out hltp; have p2 := cellOf E.bel P2.out hltp; have p3 := cellOf E.bel P3.out hltp; have p4 := cellOf E.bel P4.out hltp; have p5 := cellOf E.bel P5.out hltp; have p6 := cellOf E.bel P6.out hltp; (try clear k0c0 k0c1 k0f0 k0f1); (try clear k1c0 k1c1 k1f0 k1f1); (try clear k2c0 k2c1 k2f0 k2f1); (try clear k3c0 k3c1 k3f0 k3f1); (try clear k4c0 k4c1 k4f0 k4f1); (try clear k5c0 k5c1 k5f0 k5f1); obtain ⟨k0c0, k0c1, k0f0, k0f1⟩ := E.box 0 (b := B14) (v0 := .bool (decide (Q < 0))) (v1 := .slice a16 (dig 18446744073709551616 (Q).natAbs).length c16) rfl; obtain ⟨k1c0, k1c1, k1f0, k1f1⟩ := E.box 1 (b := B9) (v0 := .int .i64 ZH) (v1 := .int .u64 ZL) rfl; obtain ⟨k2c0, k2c1, k2f0, k2f1⟩ := E.box 2 (b := B8) (v0 := .int .i64 YH) (v1 := .int .u64 YL) rfl; obtain ⟨k3c0, k3c1, k3f0, k3f1⟩ := E.box 3 (b := B7) (v0 := .int .i64 XH) (v1 := .int .u64 XL) rfl; obtain ⟨k4c0, k4c1, k4f0, k4f1⟩ := E.box 4 (b := B6) (v0 := .bool (decide (VB < 0))) (v1 := .slice a6 (dig 18446744073709551616 (VB).natAbs).length c6) rfl; obtain ⟨k5c0, k5c1, k5f0, k5f1⟩ := E.box 5 (b := B5) (v0 := .bool (decide (VA < 0))) (v1 := .slice a5 (dig 18446744073709551616 (VA).natAbs).length c5) rfl)
          have E2 := (E.sub [(B7, .int .i64 XH, .int .u64 XL), (B14, .bool (decide (Q < 0)), .slice a16 (dig 18446744073709551616 (Q).natAbs).length c16), (B9, .int .i64 ZH, .int .u64 ZL), (B8, .int .i64 YH, .int .u64 YL), (B6, .bool (decide (VB < 0)), .slice a6 (dig 18446744073709551616 (VB).natAbs).length c6), (B5, .bool (decide (VA < 0)), .slice a5 (dig 18446744073709551616 (VA).natAbs).length c5)] (by intro p hp; simp only [List.mem_cons, List.not_mem_nil, or_false] at hp ⊢; rcases hp with h | h | h | h | h | h <;> simp [h])).storeO (by
            intro p hp; simp only [List.mem_cons, List.not_mem_nil, or_false] at hp
            have n7 := HN7.out; rcases hp with rfl | rfl | rfl | rfl | rfl <;> (dsimp only; omega)) (Nat.le_refl _) [(a16, c16, Q.natAbs), (a6, c6, VB.natAbs), (a5, c5, VA.natAbs)] (by
            intro p hp; simp only [List.mem_cons, List.not_mem_nil, or_false] at hp
            rcases hp with rfl | rfl | rfl
            · exact .inr ⟨E.num 0 rfl, HF16.out⟩
            · exact .inl HB7N.out
            · exact .inl HA7N.out
            ) (.int .i64 LH) (.int .u64 LL)
          clear E
          have E := E2
          clear E2
          obtain ⟨W17, hW17⟩ := envZ E
          rw [hW17] at E ⊢
          clear hW17
          (try clear p0 p1 p2 p3 p4 p5 p6)
          (try clear k0c0 k0c1 k0f0 k0f1); (try clear k1c0 k1c1 k1f0 k1f1); (try clear k2c0 k2c1 k2f0 k2f1); (try clear k3c0 k3c1 k3f0 k3f1); (try clear k4c0 k4c1 k4f0 k4f1); (try clear k5c0 k5c1 k5f0 k5f1); (try clear k6c0 k6c1 k6f0 k6f1)
          clear hlf HF16 HN7 hi1 hi2 hi3 hPL hLS hNG hIA hIB had hsb hng hwt hzt
          refine wp_region_parts2 (w := W17) 50 0 none [] [(fun u _ => u = .agg #[.int .i64 LH, .int .u64 LL]), (fun u _ => u = .int .i64 LE), (fun u _ => u = .int .i64 BD), (fun u _ => u = .agg #[.bool (decide (Q < 0)), .slice a16 (dig 18446744073709551616 (Q).natAbs).length c16]), (fun u _ => u = .bool true), (fun u _ => u = .bool false), (fun u _ => u = .bool false), (fun u _ => u = .pointer (some ⟨wr.heap.size, 4, none⟩)), (fun u _ => u = .int .i64 x), (fun u _ => u = .pointer (some ⟨wr.heap.size, 5, none⟩)), (fun u _ => u = .int .i64 y), (fun u _ => u = .agg #[.int .i64 MH, .int .u64 ML]), (fun u _ => u = .pointer (some ⟨wr.heap.size, 4, none⟩)), (fun u _ => u = .int .i64 x), ((IsZ (x))), (fun u _ => u = .pointer (some ⟨wr.heap.size, 5, none⟩)), (fun u _ => u = .int .i64 y), ((IsZ (y))), ((IsZ (M))), (fun u _ => u = .bool true), (fun u _ => u = .bool false), (fun u _ => u = .bool false), (fun u _ => u = .bool false), (fun u _ => u = .pointer (some ⟨wr.heap.size, 4, none⟩)), (fun u _ => u = .int .i64 x), (fun u _ => u = .agg #[.int .i64 FH, .int .u64 FL]), (fun u _ => u = .pointer (some ⟨wr.heap.size, 4, none⟩)), (fun u _ => u = .int .i64 x), (fun u _ => u = .agg #[.int .i64 FH, .int .u64 FL]), (fun u _ => u = .bool false), (fun u _ => u = .bool false), (fun u _ => u = .bool false), (fun u _ => u = .pointer (some ⟨wr.heap.size, 0, none⟩)), (fun u _ => u = .agg #[.int .i64 ah, .int .u64 al]), (fun u _ => u = .int .i64 C0), (fun u _ => u = .agg #[.bool (decide (VA < 0)), .slice a5 (dig 18446744073709551616 (VA).natAbs).length c5]), (fun u _ => u = .int .i64 C0), (fun u _ => u = .bool false), (fun u _ => u = .bool false), (fun u _ => u = .bool false), (fun u _ => u = .pointer (some ⟨wr.heap.size, 0, none⟩)), (fun u _ => u = .agg #[.int .i64 ah, .int .u64 al]), (fun u _ => u = .pointer (some ⟨wr.heap.size, 2, none⟩)), (fun u _ => u = .agg #[.int .i64 bh, .int .u64 bl]), (fun u _ => u = .int .i64 C1), (fun u _ => u = .agg #[.bool (decide (VA < 0)), .slice a5 (dig 18446744073709551616 (VA).natAbs).length c5]), (fun u _ => u = .agg #[.bool (decide (VB < 0)), .slice a6 (dig 18446744073709551616 (VB).natAbs).length c6]), (fun u _ => u = .int .i64 C1), (fun u _ => u = .bool false), (fun u _ => u = .bool false)] [some 113, some 114, some 115, some 116, some 117, some 118, some 119, some 120, some 121, some 122, some 123, some 124, some 125, some 126, some 127, some 128, some 129, some 130, some 131, some 132, some 133, some 134, some 135, some 136, some 137, some 138, some 139, some 140, some 141, some 142, some 143, some 144, some 145, some 146, some 147, some 148, some 149, some 150, some 151, some 152, some 153, some 154, some 155, some 156, some 157, some 158, some 159, some 160, some 161, some 162] #[true, true, true, true, true, true, true, true, true, true, true, true, true, true, true, true, true, true, true, true, true, true, true, true, true, true, true, true, true, true, true, true, true, true, true, true, true, true, true, true, true, true, true, true, true, true, true, true, true, true] #[true, true, true, true, true, true, true, true, true, true, true, true, true, true, true, true, true, true, true, true, true, true, true, true, true, true, true, true, true, true, true, true, true, true, true, true, true, true, true, true, true, true, true, true, true, true, true, true, true, true] (by kernel_rfl) rfl (by kernel_rfl) (by kernel_rfl) rfl (by kernel_rfl) (by kernel_rfl) (.cons (carries_eq _) (.cons (carries_eq _) (.cons (carries_eq _) (.cons (carries_eq _) (.cons (carries_eq _) (.cons (carries_eq _) (.cons (carries_eq _) (.cons (carries_eq _) (.cons (carries_eq _) (.cons (carries_eq _) (.cons (carries_eq _) (.cons (carries_eq _) (.cons (carries_eq _) (.cons (carries_eq _) (.cons (isZ_carries _) (.cons (carries_eq _) (.cons (carries_eq _) (.cons (isZ_carries _) (.cons (isZ_carries _) (.cons (carries_eq _) (.cons (carries_eq _) (.cons (carries_eq _) (.cons (carries_eq _) (.cons (carries_eq _) (.cons (carries_eq _) (.cons (carries_eq _) (.cons (carries_eq _) (.cons (carries_eq _) (.cons (carries_eq _) (.cons (carries_eq _) (.cons (carries_eq _) (.cons (carries_eq _) (.cons (carries_eq _) (.cons (carries_eq _) (.cons (carries_eq _) (.cons (carries_eq _) (.cons (carries_eq _) (.cons (carries_eq _) (.cons (carries_eq _) (.cons (carries_eq _) (.cons (carries_eq _) (.cons (carries_eq _) (.cons (carries_eq _) (.cons (carries_eq _) (.cons (carries_eq _) (.cons (carries_eq _) (.cons (carries_eq _) (.cons (carries_eq _) (.cons (carries_eq _) (.cons (carries_eq _) .nil)))))))))))))))))))))))))))))))))))))))))))))))))) (fun vs b hvl hvb => ?_)
          obtain ⟨x0, x1, x2, x3, x4, x5, x6, x7, x8, x9, x10, x11, x12, x13, x14, x15, x16, x17, x18, x19, x20, x21, x22, x23, x24, x25, x26, x27, x28, x29, x30, x31, x32, x33, x34, x35, x36, x37, x38, x39, x40, x41, x42, x43, x44, x45, x46, x47, x48, x49, rfl⟩ : ∃ x0 x1 x2 x3 x4 x5 x6 x7 x8 x9 x10 x11 x12 x13 x14 x15 x16 x17 x18 x19 x20 x21 x22 x23 x24 x25 x26 x27 x28 x29 x30 x31 x32 x33 x34 x35 x36 x37 x38 x39 x40 x41 x42 x43 x44 x45 x46 x47 x48 x49, vs = [x0, x1, x2, x3, x4, x5, x6, x7, x8, x9, x10, x11, x12, x13, x14, x15, x16, x17, x18, x19, x20, x21, x22, x23, x24, x25, x26, x27, x28, x29, x30, x31, x32, x33, x34, x35, x36, x37, x38, x39, x40, x41, x42, x43, x44, x45, x46, x47, x48, x49] := lst50 hvl
          clear hvl
          simp only [putAll, Act.put, List.setIfInBounds_toArray, List.set_cons_zero, List.set_cons_succ] at hvb
          subst hvb
          refine ⟨(.snoc (.snoc (.snoc (.snoc (.snoc (.snoc (.snoc (.snoc (.snoc (.snoc (.snoc (.snoc (.snoc (.snoc (.snoc (.snoc (.snoc (.snoc (.snoc (.snoc (.snoc (.snoc (.snoc (.snoc (.snoc (.snoc (.snoc (.snoc (.snoc (.snoc (.snoc (.snoc (.snoc (.snoc (.snoc (.snoc (.snoc (.snoc (.snoc (.snoc (.snoc (.snoc (.snoc (.snoc (.snoc (.snoc (.snoc (.snoc (.snoc (.snoc .zero (PartOb.intro (d := (some 113)) (r := fun u _ => u = .agg #[.int .i64 LH, .int .u64 LL]) rfl rfl rfl rfl ?po18x0)) (PartOb.intro (d := (some 114)) (r := fun u _ => u = .int .i64 LE) rfl rfl rfl rfl ?po18x1)) (PartOb.intro (d := (some 115)) (r := fun u _ => u = .int .i64 BD) rfl rfl rfl rfl ?po18x2)) (PartOb.intro (d := (some 116)) (r := fun u _ => u = .agg #[.bool (decide (Q < 0)), .slice a16 (dig 18446744073709551616 (Q).natAbs).length c16]) rfl rfl rfl rfl ?po18x3)) (PartOb.intro (d := (some 117)) (r := fun u _ => u = .bool true) rfl rfl rfl rfl ?po18x4)) (PartOb.intro (d := (some 118)) (r := fun u _ => u = .bool false) rfl rfl rfl rfl ?po18x5)) (PartOb.intro (d := (some 119)) (r := fun u _ => u = .bool false) rfl rfl rfl rfl ?po18x6)) (PartOb.intro (d := (some 120)) (r := fun u _ => u = .pointer (some ⟨wr.heap.size, 4, none⟩)) rfl rfl rfl rfl ?po18x7)) (PartOb.intro (d := (some 121)) (r := fun u _ => u = .int .i64 x) rfl rfl rfl rfl ?po18x8)) (PartOb.intro (d := (some 122)) (r := fun u _ => u = .pointer (some ⟨wr.heap.size, 5, none⟩)) rfl rfl rfl rfl ?po18x9)) (PartOb.intro (d := (some 123)) (r := fun u _ => u = .int .i64 y) rfl rfl rfl rfl ?po18x10)) (PartOb.intro (d := (some 124)) (r := fun u _ => u = .agg #[.int .i64 MH, .int .u64 ML]) rfl rfl rfl rfl ?po18x11)) (PartOb.intro (d := (some 125)) (r := fun u _ => u = .pointer (some ⟨wr.heap.size, 4, none⟩)) rfl rfl rfl rfl ?po18x12)) (PartOb.intro (d := (some 126)) (r := fun u _ => u = .int .i64 x) rfl rfl rfl rfl ?po18x13)) (PartOb.intro (d := (some 127)) (r := (IsZ (x))) rfl rfl rfl rfl ?po18x14)) (PartOb.intro (d := (some 128)) (r := fun u _ => u = .pointer (some ⟨wr.heap.size, 5, none⟩)) rfl rfl rfl rfl ?po18x15)) (PartOb.intro (d := (some 129)) (r := fun u _ => u = .int .i64 y) rfl rfl rfl rfl ?po18x16)) (PartOb.intro (d := (some 130)) (r := (IsZ (y))) rfl rfl rfl rfl ?po18x17)) (PartOb.intro (d := (some 131)) (r := (IsZ (M))) rfl rfl rfl rfl ?po18x18)) (PartOb.intro (d := (some 132)) (r := fun u _ => u = .bool true) rfl rfl rfl rfl ?po18x19)) (PartOb.intro (d := (some 133)) (r := fun u _ => u = .bool false) rfl rfl rfl rfl ?po18x20)) (PartOb.intro (d := (some 134)) (r := fun u _ => u = .bool false) rfl rfl rfl rfl ?po18x21)) (PartOb.intro (d := (some 135)) (r := fun u _ => u = .bool false) rfl rfl rfl rfl ?po18x22)) (PartOb.intro (d := (some 136)) (r := fun u _ => u = .pointer (some ⟨wr.heap.size, 4, none⟩)) rfl rfl rfl rfl ?po18x23)) (PartOb.intro (d := (some 137)) (r := fun u _ => u = .int .i64 x) rfl rfl rfl rfl ?po18x24)) (PartOb.intro (d := (some 138)) (r := fun u _ => u = .agg #[.int .i64 FH, .int .u64 FL]) rfl rfl rfl rfl ?po18x25)) (PartOb.intro (d := (some 139)) (r := fun u _ => u = .pointer (some ⟨wr.heap.size, 4, none⟩)) rfl rfl rfl rfl ?po18x26)) (PartOb.intro (d := (some 140)) (r := fun u _ => u = .int .i64 x) rfl rfl rfl rfl ?po18x27)) (PartOb.intro (d := (some 141)) (r := fun u _ => u = .agg #[.int .i64 FH, .int .u64 FL]) rfl rfl rfl rfl ?po18x28)) (PartOb.intro (d := (some 142)) (r := fun u _ => u = .bool false) rfl rfl rfl rfl ?po18x29)) (PartOb.intro (d := (some 143)) (r := fun u _ => u = .bool false) rfl rfl rfl rfl ?po18x30)) (PartOb.intro (d := (some 144)) (r := fun u _ => u = .bool false) rfl rfl rfl rfl ?po18x31)) (PartOb.intro (d := (some 145)) (r := fun u _ => u = .pointer (some ⟨wr.heap.size, 0, none⟩)) rfl rfl rfl rfl ?po18x32)) (PartOb.intro (d := (some 146)) (r := fun u _ => u = .agg #[.int .i64 ah, .int .u64 al]) rfl rfl rfl rfl ?po18x33)) (PartOb.intro (d := (some 147)) (r := fun u _ => u = .int .i64 C0) rfl rfl rfl rfl ?po18x34)) (PartOb.intro (d := (some 148)) (r := fun u _ => u = .agg #[.bool (decide (VA < 0)), .slice a5 (dig 18446744073709551616 (VA).natAbs).length c5]) rfl rfl rfl rfl ?po18x35)) (PartOb.intro (d := (some 149)) (r := fun u _ => u = .int .i64 C0) rfl rfl rfl rfl ?po18x36)) (PartOb.intro (d := (some 150)) (r := fun u _ => u = .bool false) rfl rfl rfl rfl ?po18x37)) (PartOb.intro (d := (some 151)) (r := fun u _ => u = .bool false) rfl rfl rfl rfl ?po18x38)) (PartOb.intro (d := (some 152)) (r := fun u _ => u = .bool false) rfl rfl rfl rfl ?po18x39)) (PartOb.intro (d := (some 153)) (r := fun u _ => u = .pointer (some ⟨wr.heap.size, 0, none⟩)) rfl rfl rfl rfl ?po18x40)) (PartOb.intro (d := (some 154)) (r := fun u _ => u = .agg #[.int .i64 ah, .int .u64 al]) rfl rfl rfl rfl ?po18x41)) (PartOb.intro (d := (some 155)) (r := fun u _ => u = .pointer (some ⟨wr.heap.size, 2, none⟩)) rfl rfl rfl rfl ?po18x42)) (PartOb.intro (d := (some 156)) (r := fun u _ => u = .agg #[.int .i64 bh, .int .u64 bl]) rfl rfl rfl rfl ?po18x43)) (PartOb.intro (d := (some 157)) (r := fun u _ => u = .int .i64 C1) rfl rfl rfl rfl ?po18x44)) (PartOb.intro (d := (some 158)) (r := fun u _ => u = .agg #[.bool (decide (VA < 0)), .slice a5 (dig 18446744073709551616 (VA).natAbs).length c5]) rfl rfl rfl rfl ?po18x45)) (PartOb.intro (d := (some 159)) (r := fun u _ => u = .agg #[.bool (decide (VB < 0)), .slice a6 (dig 18446744073709551616 (VB).natAbs).length c6]) rfl rfl rfl rfl ?po18x46)) (PartOb.intro (d := (some 160)) (r := fun u _ => u = .int .i64 C1) rfl rfl rfl rfl ?po18x47)) (PartOb.intro (d := (some 161)) (r := fun u _ => u = .bool false) rfl rfl rfl rfl ?po18x48)) (PartOb.intro (d := (some 162)) (r := fun u _ => u = .bool false) rfl rfl rfl rfl ?po18x49)), ?pend18, ?pfl18⟩
          case po18x0 =>
            intro w1 hb1 hd KK hK
            clear hd
            obtain ⟨l0c0, l0c1, l0f0, l0f1⟩ := (E.next hb1).box 0 (b := B7) (v0 := .int .i64 LH) (v1 := .int .u64 LL) rfl
            simp only [Act.put, List.setIfInBounds_toArray, List.set_cons_zero, List.set_cons_succ] at hK
            go_simp
            first | exact hK.out _ _ (Below.refl _ _) rfl | (have hk := hK.out _ _ (Below.refl _ _) rfl; revert hk; go_simp)
          case po18x1 =>
            intro w1 hb1 hd KK hK
            clear hd
            simp only [Act.put, List.setIfInBounds_toArray, List.set_cons_zero, List.set_cons_succ] at hK
            go_simp
            first | exact hK.out _ _ (Below.refl _ _) rfl | (have hk := hK.out _ _ (Below.refl _ _) rfl; revert hk; go_simp)
          case po18x2 =>
            intro w1 hb1 hd KK hK
            clear hd
            simp only [Act.put, List.setIfInBounds_toArray, List.set_cons_zero, List.set_cons_succ] at hK
            go_simp
            first | exact hK.out _ _ (Below.refl _ _) rfl | (have hk := hK.out _ _ (Below.refl _ _) rfl; revert hk; go_simp)
          case po18x3 =>
            intro w1 hb1 hd KK hK
            clear hd
            obtain ⟨l1c0, l1c1, l1f0, l1f1⟩ := (E.next hb1).box 1 (b := B14) (v0 := .bool (decide (Q < 0))) (v1 := .slice a16 (dig 18446744073709551616 (Q).natAbs).length c16) rfl
            simp only [Act.put, List.setIfInBounds_toArray, List.set_cons_zero, List.set_cons_succ] at hK
            go_simp
            first | exact hK.out _ _ (Below.refl _ _) rfl | (have hk := hK.out _ _ (Below.refl _ _) rfl; revert hk; go_simp)
          case po18x4 =>
            intro w1 hb1 hd KK hK
            have d0 : x0 = .agg #[.int .i64 LH, .int .u64 LL] := hd 0 (by kernel_rfl)
            have d1 : x1 = .int .i64 LE := hd 1 (by kernel_rfl)
            have d2 : x2 = .int .i64 BD := hd 2 (by kernel_rfl)
            have d3 : x3 = .agg #[.bool (decide (Q < 0)), .slice a16 (dig 18446744073709551616 (Q).natAbs).length c16] := hd 3 (by kernel_rfl)
            clear hd
            subst d0
            subst d1
            subst d2
            subst d3
            simp only [Act.put, List.setIfInBounds_toArray, List.set_cons_zero, List.set_cons_succ] at hK
            go_simp
            go_at_call 16
            refine (hi4 _ _ _ ((E.next hb1).num 0 rfl)).out.mono ?_
            rintro e w2 ⟨rfl, hb2⟩
            (try go_wp2_with fail)
            first | exact hK.out _ _ hb2 rfl | (have hk := hK.out _ _ hb2 rfl; revert hk; go_simp)
          case po18x5 =>
            intro w1 hb1 hd KK hK
            have d4 : x4 = .bool true := hd 4 (by kernel_rfl)
            clear hd
            subst d4
            simp only [Act.put, List.setIfInBounds_toArray, List.set_cons_zero, List.set_cons_succ] at hK
            go_simp
            first | exact hK.out _ _ (Below.refl _ _) rfl | (have hk := hK.out _ _ (Below.refl _ _) rfl; revert hk; go_simp)
          case po18x6 =>
            intro w1 hb1 hd KK hK
            have d4 : x4 = .bool true := hd 4 (by kernel_rfl)
            have d5 : x5 = .bool false := hd 5 (by kernel_rfl)
            clear hd
            subst d4
            subst d5
            simp only [Act.put, List.setIfInBounds_toArray, List.set_cons_zero, List.set_cons_succ] at hK
            go_simp
            first | exact hK.out _ _ (Below.refl _ _) rfl | (have hk := hK.out _ _ (Below.refl _ _) rfl; revert hk; go_simp)
          case po18x7 =>
            intro w1 hb1 hd KK hK
            have d6 : x6 = .bool false := hd 6 (by kernel_rfl)
            clear hd
            subst d6
            simp only [Act.put, List.setIfInBounds_toArray, List.set_cons_zero, List.set_cons_succ] at hK
            go_simp
            first | exact hK.out _ _ (Below.refl _ _) rfl | (have hk := hK.out _ _ (Below.refl _ _) rfl; revert hk; go_simp)
          case po18x8 =>
            intro w1 hb1 hd KK hK
            have d6 : x6 = .bool false := hd 6 (by kernel_rfl)
            have d7 : x7 = .pointer (some ⟨wr.heap.size, 4, none⟩) := hd 7 (by kernel_rfl)
            clear hd
            subst d6
            subst d7
            have q4 := cellOf (E.next hb1).bel P4.out hltp
            simp only [Act.put, List.setIfInBounds_toArray, List.set_cons_zero, List.set_cons_succ] at hK
            go_simp
            first | exact hK.out _ _ (Below.refl _ _) rfl | (have hk := hK.out _ _ (Below.refl _ _) rfl; revert hk; go_simp)
          case po18x9 =>
            intro w1 hb1 hd KK hK
            have d6 : x6 = .bool false := hd 6 (by kernel_rfl)
            clear hd
            subst d6
            simp only [Act.put, List.setIfInBounds_toArray, List.set_cons_zero, List.set_cons_succ] at hK
            go_simp
            first | exact hK.out _ _ (Below.refl _ _) rfl | (have hk := hK.out _ _ (Below.refl _ _) rfl; revert hk; go_simp)
          case po18x10 =>
            intro w1 hb1 hd KK hK
            have d6 : x6 = .bool false := hd 6 (by kernel_rfl)
            have d9 : x9 = .pointer (some ⟨wr.heap.size, 5, none⟩) := hd 9 (by kernel_rfl)
            clear hd
            subst d6
            subst d9
            have q5 := cellOf (E.next hb1).bel P5.out hltp
            simp only [Act.put, List.setIfInBounds_toArray, List.set_cons_zero, List.set_cons_succ] at hK
            go_simp
            first | exact hK.out _ _ (Below.refl _ _) rfl | (have hk := hK.out _ _ (Below.refl _ _) rfl; revert hk; go_simp)
          case po18x11 =>
            intro w1 hb1 hd KK hK
            have d6 : x6 = .bool false := hd 6 (by kernel_rfl)
            have d8 : x8 = .int .i64 x := hd 8 (by kernel_rfl)
            have d10 : x10 = .int .i64 y := hd 10 (by kernel_rfl)
            clear hd
            subst d6
            subst d8
            subst d10
            simp only [Act.put, List.setIfInBounds_toArray, List.set_cons_zero, List.set_cons_succ] at hK
            go_simp
            go_at_call 36
            refine (hml _).out.mono ?_
            rintro e w2 ⟨rfl, hb2⟩
            (try go_wp2_with fail)
            first | exact hK.out _ _ hb2 rfl | (have hk := hK.out _ _ hb2 rfl; revert hk; go_simp)
          case po18x12 =>
            intro w1 hb1 hd KK hK
            have d6 : x6 = .bool false := hd 6 (by kernel_rfl)
            clear hd
            subst d6
            simp only [Act.put, List.setIfInBounds_toArray, List.set_cons_zero, List.set_cons_succ] at hK
            go_simp
            first | exact hK.out _ _ (Below.refl _ _) rfl | (have hk := hK.out _ _ (Below.refl _ _) rfl; revert hk; go_simp)
          case po18x13 =>
            intro w1 hb1 hd KK hK
            have d6 : x6 = .bool false := hd 6 (by kernel_rfl)
            have d12 : x12 = .pointer (some ⟨wr.heap.size, 4, none⟩) := hd 12 (by kernel_rfl)
            clear hd
            subst d6
            subst d12
            have q4 := cellOf (E.next hb1).bel P4.out hltp
            simp only [Act.put, List.setIfInBounds_toArray, List.set_cons_zero, List.set_cons_succ] at hK
            go_simp
            first | exact hK.out _ _ (Below.refl _ _) rfl | (have hk := hK.out _ _ (Below.refl _ _) rfl; revert hk; go_simp)
          case po18x14 =>
            intro w1 hb1 hd KK hK
            have d6 : x6 = .bool false := hd 6 (by kernel_rfl)
            have d11 : x11 = .agg #[.int .i64 MH, .int .u64 ML] := hd 11 (by kernel_rfl)
            have d13 : x13 = .int .i64 x := hd 13 (by kernel_rfl)
            clear hd
            subst d6
            subst d11
            subst d13
            simp only [Act.put, List.setIfInBounds_toArray, List.set_cons_zero, List.set_cons_succ] at hK
            go_simp
            go_at_call 22
            refine (hfx _).out.mono ?_
            rintro e w2 ⟨a2, c2, rfl, hN2, hb2⟩
            (try go_wp2_with fail)
            first | exact hK.out _ _ hb2 ⟨a2, c2, rfl, hN2⟩ | (have hk := hK.out _ _ hb2 ⟨a2, c2, rfl, hN2⟩; revert hk; go_simp)
          case po18x15 =>
            intro w1 hb1 hd KK hK
            have d6 : x6 = .bool false := hd 6 (by kernel_rfl)
            clear hd
            subst d6
            simp only [Act.put, List.setIfInBounds_toArray, List.set_cons_zero, List.set_cons_succ] at hK
            go_simp
            first | exact hK.out _ _ (Below.refl _ _) rfl | (have hk := hK.out _ _ (Below.refl _ _) rfl; revert hk; go_simp)
          case po18x16 =>
            intro w1 hb1 hd KK hK
            have d6 : x6 = .bool false := hd 6 (by kernel_rfl)
            have d15 : x15 = .pointer (some ⟨wr.heap.size, 5, none⟩) := hd 15 (by kernel_rfl)
            clear hd
            subst d6
            subst d15
            have q5 := cellOf (E.next hb1).bel P5.out hltp
            simp only [Act.put, List.setIfInBounds_toArray, List.set_cons_zero, List.set_cons_succ] at hK
            go_simp
            first | exact hK.out _ _ (Below.refl _ _) rfl | (have hk := hK.out _ _ (Below.refl _ _) rfl; revert hk; go_simp)
          case po18x17 =>
            intro w1 hb1 hd KK hK
            have d6 : x6 = .bool false := hd 6 (by kernel_rfl)
            have d14 : (IsZ (x)) x14 w1 := hd 14 (by kernel_rfl)
            have d16 : x16 = .int .i64 y := hd 16 (by kernel_rfl)
            clear hd
            subst d6
            obtain ⟨a14x, e14x, rfl, hN14⟩ := d14
            subst d16
            simp only [Act.put, List.setIfInBounds_toArray, List.set_cons_zero, List.set_cons_succ] at hK
            go_simp
            go_at_call 22
            refine (hfy _).out.mono ?_
            rintro e w2 ⟨a2, c2, rfl, hN2, hb2⟩
            (try go_wp2_with fail)
            first | exact hK.out _ _ hb2 ⟨a2, c2, rfl, hN2⟩ | (have hk := hK.out _ _ hb2 ⟨a2, c2, rfl, hN2⟩; revert hk; go_simp)
          case po18x18 =>
            intro w1 hb1 hd KK hK
            have d6 : x6 = .bool false := hd 6 (by kernel_rfl)
            have d14 : (IsZ (x)) x14 w1 := hd 14 (by kernel_rfl)
            have d17 : (IsZ (y)) x17 w1 := hd 17 (by kernel_rfl)
            clear hd
            subst d6
            obtain ⟨a14x, e14x, rfl, hN14⟩ := d14
            obtain ⟨a17x, e17x, rfl, hN17⟩ := d17
            simp only [Act.put, List.setIfInBounds_toArray, List.set_cons_zero, List.set_cons_succ] at hK
            go_simp
            go_at_call 23
            refine (hZT _ _ _ _ _ hN14 hN17).out.mono ?_
            rintro e w2 ⟨a2, c2, rfl, hN2, hb2⟩
            (try go_wp2_with fail)
            first | exact hK.out _ _ hb2 ⟨a2, c2, rfl, hN2⟩ | (have hk := hK.out _ _ hb2 ⟨a2, c2, rfl, hN2⟩; revert hk; go_simp)
          case po18x19 =>
            intro w1 hb1 hd KK hK
            have d6 : x6 = .bool false := hd 6 (by kernel_rfl)
            have d11 : x11 = .agg #[.int .i64 MH, .int .u64 ML] := hd 11 (by kernel_rfl)
            have d18 : (IsZ (M)) x18 w1 := hd 18 (by kernel_rfl)
            clear hd
            subst d6
            subst d11
            obtain ⟨a18x, e18x, rfl, hN18⟩ := d18
            simp only [Act.put, List.setIfInBounds_toArray, List.set_cons_zero, List.set_cons_succ] at hK
            go_simp
            go_at_call 16
            refine (hi5 _ _ _ hN18).out.mono ?_
            rintro e w2 ⟨rfl, hb2⟩
            (try go_wp2_with fail)
            first | exact hK.out _ _ hb2 rfl | (have hk := hK.out _ _ hb2 rfl; revert hk; go_simp)
          case po18x20 =>
            intro w1 hb1 hd KK hK
            have d6 : x6 = .bool false := hd 6 (by kernel_rfl)
            have d19 : x19 = .bool true := hd 19 (by kernel_rfl)
            clear hd
            subst d6
            subst d19
            simp only [Act.put, List.setIfInBounds_toArray, List.set_cons_zero, List.set_cons_succ] at hK
            go_simp
            first | exact hK.out _ _ (Below.refl _ _) rfl | (have hk := hK.out _ _ (Below.refl _ _) rfl; revert hk; go_simp)
          case po18x21 =>
            intro w1 hb1 hd KK hK
            have d6 : x6 = .bool false := hd 6 (by kernel_rfl)
            have d20 : x20 = .bool false := hd 20 (by kernel_rfl)
            clear hd
            subst d6
            subst d20
            simp only [Act.put, List.setIfInBounds_toArray, List.set_cons_zero, List.set_cons_succ] at hK
            go_simp
            first | exact hK.out _ _ (Below.refl _ _) rfl | (have hk := hK.out _ _ (Below.refl _ _) rfl; revert hk; go_simp)
          case po18x22 =>
            intro w1 hb1 hd KK hK
            have d19 : x19 = .bool true := hd 19 (by kernel_rfl)
            have d21 : x21 = .bool false := hd 21 (by kernel_rfl)
            clear hd
            subst d19
            subst d21
            simp only [Act.put, List.setIfInBounds_toArray, List.set_cons_zero, List.set_cons_succ] at hK
            go_simp
            first | exact hK.out _ _ (Below.refl _ _) rfl | (have hk := hK.out _ _ (Below.refl _ _) rfl; revert hk; go_simp)
          case po18x23 =>
            intro w1 hb1 hd KK hK
            have d22 : x22 = .bool false := hd 22 (by kernel_rfl)
            clear hd
            subst d22
            simp only [Act.put, List.setIfInBounds_toArray, List.set_cons_zero, List.set_cons_succ] at hK
            go_simp
            first | exact hK.out _ _ (Below.refl _ _) rfl | (have hk := hK.out _ _ (Below.refl _ _) rfl; revert hk; go_simp)
          case po18x24 =>
            intro w1 hb1 hd KK hK
            have d22 : x22 = .bool false := hd 22 (by kernel_rfl)
            have d23 : x23 = .pointer (some ⟨wr.heap.size, 4, none⟩) := hd 23 (by kernel_rfl)
            clear hd
            subst d22
            subst d23
            have q4 := cellOf (E.next hb1).bel P4.out hltp
            simp only [Act.put, List.setIfInBounds_toArray, List.set_cons_zero, List.set_cons_succ] at hK
            go_simp
            first | exact hK.out _ _ (Below.refl _ _) rfl | (have hk := hK.out _ _ (Below.refl _ _) rfl; revert hk; go_simp)
          case po18x25 =>
            intro w1 hb1 hd KK hK
            have d22 : x22 = .bool false := hd 22 (by kernel_rfl)
            have d24 : x24 = .int .i64 x := hd 24 (by kernel_rfl)
            clear hd
            subst d22
            subst d24
            simp only [Act.put, List.setIfInBounds_toArray, List.set_cons_zero, List.set_cons_succ] at hK
            go_simp
            go_at_call 18
            refine (hwf _).out.mono ?_
            rintro e w2 ⟨rfl, hb2⟩
            (try go_wp2_with fail)
            first | exact hK.out _ _ hb2 rfl | (have hk := hK.out _ _ hb2 rfl; revert hk; go_simp)
          case po18x26 =>
            intro w1 hb1 hd KK hK
            have d22 : x22 = .bool false := hd 22 (by kernel_rfl)
            clear hd
            subst d22
            simp only [Act.put, List.setIfInBounds_toArray, List.set_cons_zero, List.set_cons_succ] at hK
            go_simp
            first | exact hK.out _ _ (Below.refl _ _) rfl | (have hk := hK.out _ _ (Below.refl _ _) rfl; revert hk; go_simp)
          case po18x27 =>
            intro w1 hb1 hd KK hK
            have d22 : x22 = .bool false := hd 22 (by kernel_rfl)
            have d26 : x26 = .pointer (some ⟨wr.heap.size, 4, none⟩) := hd 26 (by kernel_rfl)
            clear hd
            subst d22
            subst d26
            have q4 := cellOf (E.next hb1).bel P4.out hltp
            simp only [Act.put, List.setIfInBounds_toArray, List.set_cons_zero, List.set_cons_succ] at hK
            go_simp
            first | exact hK.out _ _ (Below.refl _ _) rfl | (have hk := hK.out _ _ (Below.refl _ _) rfl; revert hk; go_simp)
          case po18x28 =>
            intro w1 hb1 hd KK hK
            have d22 : x22 = .bool false := hd 22 (by kernel_rfl)
            have d25 : x25 = .agg #[.int .i64 FH, .int .u64 FL] := hd 25 (by kernel_rfl)
            have d27 : x27 = .int .i64 x := hd 27 (by kernel_rfl)
            clear hd
            subst d22
            subst d25
            subst d27
            simp only [Act.put, List.setIfInBounds_toArray, List.set_cons_zero, List.set_cons_succ] at hK
            go_simp
            go_at_call 34
            refine (hrf _).out.mono ?_
            rintro e w2 ⟨rfl, hb2⟩
            (try go_wp2_with fail)
            first | exact hK.out _ _ hb2 rfl | (have hk := hK.out _ _ hb2 rfl; revert hk; go_simp)
          case po18x29 =>
            intro w1 hb1 hd KK hK
            have d22 : x22 = .bool false := hd 22 (by kernel_rfl)
            have d25 : x25 = .agg #[.int .i64 FH, .int .u64 FL] := hd 25 (by kernel_rfl)
            have d28 : x28 = .agg #[.int .i64 FH, .int .u64 FL] := hd 28 (by kernel_rfl)
            clear hd
            subst d22
            subst d25
            subst d28
            simp only [Act.put, List.setIfInBounds_toArray, List.set_cons_zero, List.set_cons_succ] at hK
            go_simp
            first | exact hK.out _ _ (Below.refl _ _) rfl | (have hk := hK.out _ _ (Below.refl _ _) rfl; revert hk; go_simp)
          case po18x30 =>
            intro w1 hb1 hd KK hK
            have d22 : x22 = .bool false := hd 22 (by kernel_rfl)
            have d29 : x29 = .bool false := hd 29 (by kernel_rfl)
            clear hd
            subst d22
            subst d29
            simp only [Act.put, List.setIfInBounds_toArray, List.set_cons_zero, List.set_cons_succ] at hK
            go_simp
            first | exact hK.out _ _ (Below.refl _ _) rfl | (have hk := hK.out _ _ (Below.refl _ _) rfl; revert hk; go_simp)
          case po18x31 =>
            intro w1 hb1 hd KK hK
            have d28 : x28 = .agg #[.int .i64 FH, .int .u64 FL] := hd 28 (by kernel_rfl)
            have d30 : x30 = .bool false := hd 30 (by kernel_rfl)
            clear hd
            subst d28
            subst d30
            simp only [Act.put, List.setIfInBounds_toArray, List.set_cons_zero, List.set_cons_succ] at hK
            go_simp
            first | exact hK.out _ _ (Below.refl _ _) rfl | (have hk := hK.out _ _ (Below.refl _ _) rfl; revert hk; go_simp)
          case po18x32 =>
            intro w1 hb1 hd KK hK
            have d31 : x31 = .bool false := hd 31 (by kernel_rfl)
            clear hd
            subst d31
            simp only [Act.put, List.setIfInBounds_toArray, List.set_cons_zero, List.set_cons_succ] at hK
            go_simp
            first | exact hK.out _ _ (Below.refl _ _) rfl | (have hk := hK.out _ _ (Below.refl _ _) rfl; revert hk; go_simp)
          case po18x33 =>
            intro w1 hb1 hd KK hK
            have d31 : x31 = .bool false := hd 31 (by kernel_rfl)
            have d32 : x32 = .pointer (some ⟨wr.heap.size, 0, none⟩) := hd 32 (by kernel_rfl)
            clear hd
            subst d31
            subst d32
            have q0 := cellOf (E.next hb1).bel P0.out hltp
            have q1 := cellOf (E.next hb1).bel P1.out hltp
            simp only [Act.put, List.setIfInBounds_toArray, List.set_cons_zero, List.set_cons_succ] at hK
            go_simp
            first | exact hK.out _ _ (Below.refl _ _) rfl | (have hk := hK.out _ _ (Below.refl _ _) rfl; revert hk; go_simp)
          case po18x34 =>
            intro w1 hb1 hd KK hK
            have d31 : x31 = .bool false := hd 31 (by kernel_rfl)
            have d33 : x33 = .agg #[.int .i64 ah, .int .u64 al] := hd 33 (by kernel_rfl)
            clear hd
            subst d31
            subst d33
            simp only [Act.put, List.setIfInBounds_toArray, List.set_cons_zero, List.set_cons_succ] at hK
            go_simp
            go_at_call 32
            refine (hsg _).out.mono ?_
            rintro e w2 ⟨rfl, hb2⟩
            (try go_wp2_with fail)
            first | exact hK.out _ _ hb2 rfl | (have hk := hK.out _ _ hb2 rfl; revert hk; go_simp)
          case po18x35 =>
            intro w1 hb1 hd KK hK
            have d31 : x31 = .bool false := hd 31 (by kernel_rfl)
            clear hd
            subst d31
            obtain ⟨l5c0, l5c1, l5f0, l5f1⟩ := (E.next hb1).box 5 (b := B5) (v0 := .bool (decide (VA < 0))) (v1 := .slice a5 (dig 18446744073709551616 (VA).natAbs).length c5) rfl
            simp only [Act.put, List.setIfInBounds_toArray, List.set_cons_zero, List.set_cons_succ] at hK
            go_simp
            first | exact hK.out _ _ (Below.refl _ _) rfl | (have hk := hK.out _ _ (Below.refl _ _) rfl; revert hk; go_simp)
          case po18x36 =>
            intro w1 hb1 hd KK hK
            have d31 : x31 = .bool false := hd 31 (by kernel_rfl)
            have d34 : x34 = .int .i64 C0 := hd 34 (by kernel_rfl)
            have d35 : x35 = .agg #[.bool (decide (VA < 0)), .slice a5 (dig 18446744073709551616 (VA).natAbs).length c5] := hd 35 (by kernel_rfl)
            clear hd
            subst d31
            subst d34
            subst d35
            simp only [Act.put, List.setIfInBounds_toArray, List.set_cons_zero, List.set_cons_succ] at hK
            go_simp
            go_at_call 41
            refine (hZS _ _ _).out.mono ?_
            rintro e w2 ⟨rfl, hb2⟩
            (try go_wp2_with fail)
            first | exact hK.out _ _ hb2 rfl | (have hk := hK.out _ _ hb2 rfl; revert hk; go_simp)
          case po18x37 =>
            intro w1 hb1 hd KK hK
            have d31 : x31 = .bool false := hd 31 (by kernel_rfl)
            have d34 : x34 = .int .i64 C0 := hd 34 (by kernel_rfl)
            have d36 : x36 = .int .i64 C0 := hd 36 (by kernel_rfl)
            clear hd
            subst d31
            subst d34
            subst d36
            simp only [Act.put, List.setIfInBounds_toArray, List.set_cons_zero, List.set_cons_succ] at hK
            go_simp
            first | exact hK.out _ _ (Below.refl _ _) rfl | (have hk := hK.out _ _ (Below.refl _ _) rfl; revert hk; go_simp)
          case po18x38 =>
            intro w1 hb1 hd KK hK
            have d31 : x31 = .bool false := hd 31 (by kernel_rfl)
            have d37 : x37 = .bool false := hd 37 (by kernel_rfl)
            clear hd
            subst d31
            subst d37
            simp only [Act.put, List.setIfInBounds_toArray, List.set_cons_zero, List.set_cons_succ] at hK
            go_simp
            first | exact hK.out _ _ (Below.refl _ _) rfl | (have hk := hK.out _ _ (Below.refl _ _) rfl; revert hk; go_simp)
          case po18x39 =>
            intro w1 hb1 hd KK hK
            have d36 : x36 = .int .i64 C0 := hd 36 (by kernel_rfl)
            have d38 : x38 = .bool false := hd 38 (by kernel_rfl)
            clear hd
            subst d36
            subst d38
            simp only [Act.put, List.setIfInBounds_toArray, List.set_cons_zero, List.set_cons_succ] at hK
            go_simp
            first | exact hK.out _ _ (Below.refl _ _) rfl | (have hk := hK.out _ _ (Below.refl _ _) rfl; revert hk; go_simp)
          case po18x40 =>
            intro w1 hb1 hd KK hK
            have d39 : x39 = .bool false := hd 39 (by kernel_rfl)
            clear hd
            subst d39
            simp only [Act.put, List.setIfInBounds_toArray, List.set_cons_zero, List.set_cons_succ] at hK
            go_simp
            first | exact hK.out _ _ (Below.refl _ _) rfl | (have hk := hK.out _ _ (Below.refl _ _) rfl; revert hk; go_simp)
          case po18x41 =>
            intro w1 hb1 hd KK hK
            have d39 : x39 = .bool false := hd 39 (by kernel_rfl)
            have d40 : x40 = .pointer (some ⟨wr.heap.size, 0, none⟩) := hd 40 (by kernel_rfl)
            clear hd
            subst d39
            subst d40
            have q0 := cellOf (E.next hb1).bel P0.out hltp
            have q1 := cellOf (E.next hb1).bel P1.out hltp
            simp only [Act.put, List.setIfInBounds_toArray, List.set_cons_zero, List.set_cons_succ] at hK
            go_simp
            first | exact hK.out _ _ (Below.refl _ _) rfl | (have hk := hK.out _ _ (Below.refl _ _) rfl; revert hk; go_simp)
          case po18x42 =>
            intro w1 hb1 hd KK hK
            have d39 : x39 = .bool false := hd 39 (by kernel_rfl)
            clear hd
            subst d39
            simp only [Act.put, List.setIfInBounds_toArray, List.set_cons_zero, List.set_cons_succ] at hK
            go_simp
            first | exact hK.out _ _ (Below.refl _ _) rfl | (have hk := hK.out _ _ (Below.refl _ _) rfl; revert hk; go_simp)
          case po18x43 =>
            intro w1 hb1 hd KK hK
            have d39 : x39 = .bool false := hd 39 (by kernel_rfl)
            have d42 : x42 = .pointer (some ⟨wr.heap.size, 2, none⟩) := hd 42 (by kernel_rfl)
            clear hd
            subst d39
            subst d42
            have q2 := cellOf (E.next hb1).bel P2.out hltp
            have q3 := cellOf (E.next hb1).bel P3.out hltp
            simp only [Act.put, List.setIfInBounds_toArray, List.set_cons_zero, List.set_cons_succ] at hK
            go_simp
            first | exact hK.out _ _ (Below.refl _ _) rfl | (have hk := hK.out _ _ (Below.refl _ _) rfl; revert hk; go_simp)
          case po18x44 =>
            intro w1 hb1 hd KK hK
            have d39 : x39 = .bool false := hd 39 (by kernel_rfl)
            have d41 : x41 = .agg #[.int .i64 ah, .int .u64 al] := hd 41 (by kernel_rfl)
            have d43 : x43 = .agg #[.int .i64 bh, .int .u64 bl] := hd 43 (by kernel_rfl)
            clear hd
            subst d39
            subst d41
            subst d43
            simp only [Act.put, List.setIfInBounds_toArray, List.set_cons_zero, List.set_cons_succ] at hK
            go_simp
            go_at_call 31
            refine (hcm _).out.mono ?_
            rintro e w2 ⟨rfl, hb2⟩
            (try go_wp2_with fail)
            first | exact hK.out _ _ hb2 rfl | (have hk := hK.out _ _ hb2 rfl; revert hk; go_simp)
          case po18x45 =>
            intro w1 hb1 hd KK hK
            have d39 : x39 = .bool false := hd 39 (by kernel_rfl)
            clear hd
            subst d39
            obtain ⟨l5c0, l5c1, l5f0, l5f1⟩ := (E.next hb1).box 5 (b := B5) (v0 := .bool (decide (VA < 0))) (v1 := .slice a5 (dig 18446744073709551616 (VA).natAbs).length c5) rfl
            simp only [Act.put, List.setIfInBounds_toArray, List.set_cons_zero, List.set_cons_succ] at hK
            go_simp
            first | exact hK.out _ _ (Below.refl _ _) rfl | (have hk := hK.out _ _ (Below.refl _ _) rfl; revert hk; go_simp)
          case po18x46 =>
            intro w1 hb1 hd KK hK
            have d39 : x39 = .bool false := hd 39 (by kernel_rfl)
            clear hd
            subst d39
            obtain ⟨l4c0, l4c1, l4f0, l4f1⟩ := (E.next hb1).box 4 (b := B6) (v0 := .bool (decide (VB < 0))) (v1 := .slice a6 (dig 18446744073709551616 (VB).natAbs).length c6) rfl
            simp only [Act.put, List.setIfInBounds_toArray, List.set_cons_zero, List.set_cons_succ] at hK
            go_simp
            first | exact hK.out _ _ (Below.refl _ _) rfl | (have hk := hK.out _ _ (Below.refl _ _) rfl; revert hk; go_simp)
          case po18x47 =>
            intro w1 hb1 hd KK hK
            have d39 : x39 = .bool false := hd 39 (by kernel_rfl)
            have d44 : x44 = .int .i64 C1 := hd 44 (by kernel_rfl)
            have d45 : x45 = .agg #[.bool (decide (VA < 0)), .slice a5 (dig 18446744073709551616 (VA).natAbs).length c5] := hd 45 (by kernel_rfl)
            have d46 : x46 = .agg #[.bool (decide (VB < 0)), .slice a6 (dig 18446744073709551616 (VB).natAbs).length c6] := hd 46 (by kernel_rfl)
            clear hd
            subst d39
            subst d44
            subst d45
            subst d46
            simp only [Act.put, List.setIfInBounds_toArray, List.set_cons_zero, List.set_cons_succ] at hK
            go_simp
            go_at_call 26
            refine (hZC _ _ _ _ _ ((E.next hb1).num 2 rfl) ((E.next hb1).num 1 rfl)).out.mono ?_
            rintro e w2 ⟨rfl, hb2⟩
            (try go_wp2_with fail)
            first | exact hK.out _ _ hb2 rfl | (have hk := hK.out _ _ hb2 rfl; revert hk; go_simp)
          case po18x48 =>
            intro w1 hb1 hd KK hK
            have d39 : x39 = .bool false := hd 39 (by kernel_rfl)
            have d44 : x44 = .int .i64 C1 := hd 44 (by kernel_rfl)
            have d47 : x47 = .int .i64 C1 := hd 47 (by kernel_rfl)
            clear hd
            subst d39
            subst d44
            subst d47
            simp only [Act.put, List.setIfInBounds_toArray, List.set_cons_zero, List.set_cons_succ] at hK
            go_simp
            first | exact hK.out _ _ (Below.refl _ _) rfl | (have hk := hK.out _ _ (Below.refl _ _) rfl; revert hk; go_simp)
          case po18x49 =>
            intro w1 hb1 hd KK hK
            have d39 : x39 = .bool false := hd 39 (by kernel_rfl)
            have d48 : x48 = .bool false := hd 48 (by kernel_rfl)
            clear hd
            subst d39
            subst d48
            simp only [Act.put, List.setIfInBounds_toArray, List.set_cons_zero, List.set_cons_succ] at hK
            go_simp
            first | exact hK.out _ _ (Below.refl _ _) rfl | (have hk := hK.out _ _ (Below.refl _ _) rfl; revert hk; go_simp)
          case pfl18 => (intro f hf; cases hf)
          case pend18 =>
          intro w1 hb1 hR hD
          have d0 : x0 = .agg #[.int .i64 LH, .int .u64 LL] := hR 0 (by decide)
          have d1 : x1 = .int .i64 LE := hR 1 (by decide)
          have d2 : x2 = .int .i64 BD := hR 2 (by decide)
          have d3 : x3 = .agg #[.bool (decide (Q < 0)), .slice a16 (dig 18446744073709551616 (Q).natAbs).length c16] := hR 3 (by decide)
          have d4 : x4 = .bool true := hR 4 (by decide)
          have d5 : x5 = .bool false := hR 5 (by decide)
          have d6 : x6 = .bool false := hR 6 (by decide)
          have d7 : x7 = .pointer (some ⟨wr.heap.size, 4, none⟩) := hR 7 (by decide)
          have d8 : x8 = .int .i64 x := hR 8 (by decide)
          have d9 : x9 = .pointer (some ⟨wr.heap.size, 5, none⟩) := hR 9 (by decide)
          have d10 : x10 = .int .i64 y := hR 10 (by decide)
          have d11 : x11 = .agg #[.int .i64 MH, .int .u64 ML] := hR 11 (by decide)
          have d12 : x12 = .pointer (some ⟨wr.heap.size, 4, none⟩) := hR 12 (by decide)
          have d13 : x13 = .int .i64 x := hR 13 (by decide)
          have d14 : (IsZ (x)) x14 w1 := hR 14 (by decide)
          have d15 : x15 = .pointer (some ⟨wr.heap.size, 5, none⟩) := hR 15 (by decide)
          have d16 : x16 = .int .i64 y := hR 16 (by decide)
          have d17 : (IsZ (y)) x17 w1 := hR 17 (by decide)
          have d18 : (IsZ (M)) x18 w1 := hR 18 (by decide)
          have d19 : x19 = .bool true := hR 19 (by decide)
          have d20 : x20 = .bool false := hR 20 (by decide)
          have d21 : x21 = .bool false := hR 21 (by decide)
          have d22 : x22 = .bool false := hR 22 (by decide)
          have d23 : x23 = .pointer (some ⟨wr.heap.size, 4, none⟩) := hR 23 (by decide)
          have d24 : x24 = .int .i64 x := hR 24 (by decide)
          have d25 : x25 = .agg #[.int .i64 FH, .int .u64 FL] := hR 25 (by decide)
          have d26 : x26 = .pointer (some ⟨wr.heap.size, 4, none⟩) := hR 26 (by decide)
          have d27 : x27 = .int .i64 x := hR 27 (by decide)
          have d28 : x28 = .agg #[.int .i64 FH, .int .u64 FL] := hR 28 (by decide)
          have d29 : x29 = .bool false := hR 29 (by decide)
          have d30 : x30 = .bool false := hR 30 (by decide)
          have d31 : x31 = .bool false := hR 31 (by decide)
          have d32 : x32 = .pointer (some ⟨wr.heap.size, 0, none⟩) := hR 32 (by decide)
          have d33 : x33 = .agg #[.int .i64 ah, .int .u64 al] := hR 33 (by decide)
          have d34 : x34 = .int .i64 C0 := hR 34 (by decide)
          have d35 : x35 = .agg #[.bool (decide (VA < 0)), .slice a5 (dig 18446744073709551616 (VA).natAbs).length c5] := hR 35 (by decide)
          have d36 : x36 = .int .i64 C0 := hR 36 (by decide)
          have d37 : x37 = .bool false := hR 37 (by decide)
          have d38 : x38 = .bool false := hR 38 (by decide)
          have d39 : x39 = .bool false := hR 39 (by decide)
          have d40 : x40 = .pointer (some ⟨wr.heap.size, 0, none⟩) := hR 40 (by decide)
          have d41 : x41 = .agg #[.int .i64 ah, .int .u64 al] := hR 41 (by decide)
          have d42 : x42 = .pointer (some ⟨wr.heap.size, 2, none⟩) := hR 42 (by decide)
          have d43 : x43 = .agg #[.int .i64 bh, .int .u64 bl] := hR 43 (by decide)
          have d44 : x44 = .int .i64 C1 := hR 44 (by decide)
          have d45 : x45 = .agg #[.bool (decide (VA < 0)), .slice a5 (dig 18446744073709551616 (VA).natAbs).length c5] := hR 45 (by decide)
          have d46 : x46 = .agg #[.bool (decide (VB < 0)), .slice a6 (dig 18446744073709551616 (VB).natAbs).length c6] := hR 46 (by decide)
          have d47 : x47 = .int .i64 C1 := hR 47 (by decide)
          have d48 : x48 = .bool false := hR 48 (by decide)
          have d49 : x49 = .bool false := hR 49 (by decide)
          clear hR hD
          subst d0
          subst d1
          subst d2
          subst d3
          subst d4
          subst d5
          subst d6
          subst d7
          subst d8
          subst d9
          subst d10
          subst d11
          subst d12
          subst d13
          obtain ⟨a14x, e14x, rfl, hN14⟩ := d14
          subst d15
          subst d16
          obtain ⟨a17x, e17x, rfl, hN17⟩ := d17
          obtain ⟨a18x, e18x, rfl, hN18⟩ := d18
          subst d19
          subst d20
          subst d21
          subst d22
          subst d23
          subst d24
          subst d25
          subst d26
          subst d27
          subst d28
          subst d29
          subst d30
          subst d31
          subst d32
          subst d33
          subst d34
          subst d35
          subst d36
          subst d37
          subst d38
          subst d39
          subst d40
          subst d41
          subst d42
          subst d43
          subst d44
          subst d45
          subst d46
          subst d47
          subst d48
          subst d49
          refine wpAny_done (by kernel_rfl) ?_ _
          replace E := E.next hb1
          clear hN14 hN17 hN18 hb1
          have p0 := cellOf E.bel P0.out hltp
          have p1 := cellOf E.bel P1.out hltp
          have p2 := cellOf E.bel P2.out hltp
          have p3 := cellOf E.bel P3.out hltp
          have p4 := cellOf E.bel P4.out hltp
          have p5 := cellOf E.bel P5.out hltp
          have p6 := cellOf E.bel P6.out hltp
          obtain ⟨k0c0, k0c1, k0f0, k0f1⟩ := E.box 0 (b := B7) (v0 := .int .i64 LH) (v1 := .int .u64 LL) rfl; obtain ⟨k1c0, k1c1, k1f0, k1f1⟩ := E.box 1 (b := B14) (v0 := .bool (decide (Q < 0))) (v1 := .slice a16 (dig 18446744073709551616 (Q).natAbs).length c16) rfl; obtain ⟨k2c0, k2c1, k2f0, k2f1⟩ := E.box 2 (b := B9) (v0 := .int .i64 ZH) (v1 := .int .u64 ZL) rfl; obtain ⟨k3c0, k3c1, k3f0, k3f1⟩ := E.box 3 (b := B8) (v0 := .int .i64 YH) (v1 := .int .u64 YL) rfl; obtain ⟨k4c0, k4c1, k4f0, k4f1⟩ := E.box 4 (b := B6) (v0 := .bool (decide (VB < 0))) (v1 := .slice a6 (dig 18446744073709551616 (VB).natAbs).length c6) rfl; obtain ⟨k5c0, k5c1, k5f0, k5f1⟩ := E.box 5 (b := B5) (v0 := .bool (decide (VA < 0))) (v1 := .slice a5 (dig 18446744073709551616 (VA).natAbs).length c5) rfl
          go_wp2_with (first | (go_at_call 19; refine (hsm _).out.mono ?_; rintro e w20 ⟨rfl, hbb⟩; replace E := E.next hbb; clear hbb; (try clear p0 p1 p2 p3 p4 p5 p6); have p0 := cellOf E.bel P0.out hltp; have p1 := cellOf E.bel P1.out hltp; have p2 := cellOf E.bel P2.out hltp; have p3 := cellOf E.bel P3.out hltp; have p4 := cellOf E.bel P4.out hltp; have p5 := cellOf E.bel P5.out hltp; have p6 := cellOf E.bel P6.out hltp; (try clear k0c0 k0c1 k0f0 k0f1); (try clear k1c0 k1c1 k1f0 k1f1); (try clear k2c0 k2c1 k2f0 k2f1); (try clear k3c0 k3c1 k3f0 k3f1); (try clear k4c0 k4c1 k4f0 k4f1); (try clear k5c0 k5c1 k5f0 k5f1); obtain ⟨k0c0, k0c1, k0f0, k0f1⟩ := E.box 0 (b := B7) (v0 := .int .i64 LH) (v1 := .int .u64 LL) rfl; obtain ⟨k1c0, k1c1, k1f0, k1f1⟩ := E.box 1 (b := B14) (v0 := .bool (decide (Q < 0))) (v1 := .slice a16 (dig 18446744073709551616 (Q).natAbs).length c16) rfl; obtain ⟨k2c0, k2c1, k2f0, k2f1⟩ := E.box 2 (b := B9) (v0 := .int .i64 ZH) (v1 := .int .u64 ZL) rfl; obtain ⟨k3c0, k3c1, k3f0, k3f1⟩ := E.box 3 (b := B8) (v0 := .int .i64 YH) (v1 := .int .u64 YL) rfl; obtain ⟨k4c0, k4c1, k4f0, k4f1⟩ := E.box 4 (b := B6) (v0 := .bool (decide (VB < 0))) (v1 := .slice a6 (dig 18446744073709551616 (VB).natAbs).length c6) rfl; obtain ⟨k5c0, k5c1, k5f0, k5f1⟩ := E.box 5 (b := B5) (v0 := .bool (decide (VA < 0))) (v1 := .slice a5 (dig 18446744073709551616 (VA).natAbs).length c5) rfl) | (go_at_call 42; refine (hzm _ _ _ (E.num 2 rfl)).out.mono ?_; rintro e w21 ⟨rfl, hbb⟩; replace E := E.next hbb; clear hbb; (try clear k0c0 k0c1 k0f0 k0f1); (try clear k1c0 k1c1 k1f0 k1f1); (try clear k2c0 k2c1 k2f0 k2f1); (try clear k3c0 k3c1 k3f0 k3f1); (try clear k4c0 k4c1 k4f0 k4f1); (try clear k5c0 k5c1 k5f0 k5f1); obtain ⟨k0c0, k0c1, k0f0, k0f1⟩ := E.box 0 (b := B7) (v0 := .int .i64 LH) (v1 := .int .u64 LL) rfl; obtain ⟨k1c0, k1c1, k1f0, k1f1⟩ := E.box 1 (b := B14) (v0 := .bool (decide (Q < 0))) (v1 := .slice a16 (dig 18446744073709551616 (Q).natAbs).length c16) rfl; obtain ⟨k2c0, k2c1, k2f0, k2f1⟩ := E.box 2 (b := B9) (v0 := .int .i64 ZH) (v1 := .int .u64 ZL) rfl; obtain ⟨k3c0, k3c1, k3f0, k3f1⟩ := E.box 3 (b := B8) (v0 := .int .i64 YH) (v1 := .int .u64 YL) rfl; obtain ⟨k4c0, k4c1, k4f0, k4f1⟩ := E.box 4 (b := B6) (v0 := .bool (decide (VB < 0))) (v1 := .slice a6 (dig 18446744073709551616 (VB).natAbs).length c6) rfl; obtain ⟨k5c0, k5c1, k5f0, k5f1⟩ := E.box 5 (b := B5) (v0 := .bool (decide (VA < 0))) (v1 := .slice a5 (dig 18446744073709551616 (VA).natAbs).length c5) rfl))
          refine ⟨⟨k + 1, by omega, by go_num, BP.out.trans (E.bel.mono (by rw [← HB7E.out]; exact BP.out.size))⟩, ?_⟩
          simp [intOf]; omega
    · have HB := Lib.hid hbel
      clear hbel h
      by_cases hlt : k < n
      · have hk15 : ¬ (k : Int) < 30 := by omega
        have hkn : (k : Int) < n := by omega
        go_wp2_with (first | (go_at_call 17; refine (wakes1_any _).mono ?_; rintro e w1 ⟨rfl, hb⟩; have HW1 := Lib.hid hb; clear hb))
        go_ret
        exact ⟨rfl, HB.out.trans (HW1.out.mono HB.out.size)⟩
      · have hkn : ¬ (k : Int) < n := by omega
        go_wp2_with (first | (go_at_call 17; refine (wakes1_any _).mono ?_; rintro e w1 ⟨rfl, hb⟩; have HW1 := Lib.hid hb; clear hb))
        go_ret
        exact ⟨rfl, HB.out.trans (HW1.out.mono HB.out.size)⟩
end Go.Proofs.Ytlbmpdidmckgkaa
