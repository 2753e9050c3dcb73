/- The law WideShifts, walked. -/
import Derived.Test.YtlbmpdidmckgkaaLeft3
import Derived.Test.YtlbmpdidmckgkaaDiv5
import Derived.Test.YtlbmpdidmckgkaaEnv
import Derived.Deep.RegionHeld3
import Derived.Deep.Cut
import Derived.Deep.CutRange
set_option linter.unusedVariables false
set_option linter.unusedSimpArgs false
namespace Go.Proofs.Ytlbmpdidmckgkaa
open Go.RowKit Go.Rt

theorem cmpI_swap (a b : Int) : cmpI b a = -cmpI a b := by unfold cmpI; (repeat' split) <;> omega
theorem cmpI_bounds (a b : Int) : -1 ≤ cmpI a b ∧ cmpI a b ≤ 1 := by unfold cmpI; (repeat' split) <;> omega
theorem cmpI_zero {a b : Int} : cmpI a b = 0 ↔ a = b := by unfold cmpI; constructor <;> intro h <;> (repeat' split at h) <;> (try split) <;> omega
theorem cmpI_sub (a b : Int) : cmpI (a - b) 0 = cmpI a b := by unfold cmpI; (repeat' split) <;> omega
theorem cmpI_succ (a : Int) : cmpI (a + 1) a = 1 := by unfold cmpI; (repeat' split) <;> omega
theorem V_split (s : Int) : V (s / 18446744073709551616) (s % 18446744073709551616) = s := by unfold V; omega
theorem V_from (x : Int) (h0 : -9223372036854775808 ≤ x) (h1 : x ≤ 9223372036854775807) : V (x / 9223372036854775808) (x % 18446744073709551616) = x := by unfold V; omega
theorem WR_from (x : Int) (h0 : -9223372036854775808 ≤ x) (h1 : x ≤ 9223372036854775807) : WR (x / 9223372036854775808) (x % 18446744073709551616) := ⟨by omega, by omega, by omega, by omega⟩
theorem WR_split {s : Int} (h : inR s) : WR (s / 18446744073709551616) (s % 18446744073709551616) := by unfold inR at h; exact ⟨by omega, by omega, by omega, by omega⟩
theorem cellOf {B : Nat} {Wb w' : World} {a : Addr} {v : Value} (h : Below B Wb w') (hc : Wb.cell? a = some v) (hlt : a.block < B) : w'.cell? a = some v := (h.cell (p := a) hlt).trans hc
theorem heldTrans {Wb w w' : World} {p : Prop} (h : Below Wb.heap.size Wb w ∧ p) (hb : Below w.heap.size w w') : Below Wb.heap.size Wb w' := h.1.trans (hb.mono h.1.size)
theorem heldAlloc {Wb w : World} {p : Prop} (h : Below Wb.heap.size Wb w ∧ p) (o : Obj) : Below Wb.heap.size Wb (w.alloc o) := h.1.alloc h.1.size _
theorem heldSet {Wb w : World} {p : Prop} {ad : Addr} (h : Below Wb.heap.size Wb w ∧ p) (hle : Wb.heap.size ≤ ad.block) (v : Value) : Below Wb.heap.size Wb (w.setCell ad v) := h.1.setCell hle _
theorem heldSet2 {Wb w : World} {p : Prop} {ad : Addr} (h : Below Wb.heap.size Wb w ∧ p) (hle : Wb.heap.size ≤ ad.block) (v : Value) : Below Wb.heap.size Wb (w.setCell ad v) ∧ True := ⟨h.1.setCell hle _, trivial⟩
theorem heldRe {Wb w : World} {p : Prop} {o : Obj} (h : Below Wb.heap.size Wb (w.alloc o) ∧ p) (hle : Wb.heap.size ≤ w.heap.size) (o' : Obj) : Below Wb.heap.size Wb (w.alloc o') := by
  have k1 : Below w.heap.size w (w.alloc o) := (Below.refl _ _).alloc (Nat.le_refl _) _
  have k2 : Below w.heap.size w (w.alloc o') := (Below.refl _ _).alloc (Nat.le_refl _) _
  exact ⟨k2.os.trans (k1.os.symm.trans h.1.os), k2.tape.trans (k1.tape.symm.trans h.1.tape), k2.output.trans (k1.output.symm.trans h.1.output), Nat.le_trans hle k2.size,
    fun i hi => (k2.block i (Nat.lt_of_lt_of_le hi hle)).trans ((k1.block i (Nat.lt_of_lt_of_le hi hle)).symm.trans (h.1.block i hi))⟩
theorem zz {n : Nat} {W w' : World} (hb : Below n W w') (b : Nat) (hlt : b < n) : w'.cell? ⟨b, 0, none⟩ = W.cell? ⟨b, 0, none⟩ ∧ w'.cell? ⟨b, 1, none⟩ = W.cell? ⟨b, 1, none⟩ ∧ w'.frozen? ⟨b, 0, none⟩ = W.frozen? ⟨b, 0, none⟩ ∧ w'.frozen? ⟨b, 1, none⟩ = W.frozen? ⟨b, 1, none⟩ :=
  ⟨hb.cell (p := ⟨b, 0, none⟩) hlt, hb.cell (p := ⟨b, 1, none⟩) hlt, hb.frozen (p := ⟨b, 0, none⟩) hlt, hb.frozen (p := ⟨b, 1, none⟩) hlt⟩
theorem heldB {Wb w : World} {p : Prop} (h : Below Wb.heap.size Wb w ∧ p) : Below Wb.heap.size Wb w := h.1

set_option maxHeartbeats 3000000 in
set_option maxRecDepth 100000 in
theorem wideShifts_any (a : Option Addr) (n c : Nat) (w : World) (h : PairsAt w w.heap.size a n) :
    Calls Try.prog 6 #[.slice a n c] w fun e w' => e = .returned (.bool true) ∧ Below w.heap.size w w' := by
  have hm := h.len
  go_enter Try.func6, Try.ntmps6
  go_wp2_with fail
  go_loopw [3] (fun i wr => ∃ k : Nat, k ≤ n ∧ i = .int .i64 k ∧ Below w.heap.size w wr) (fun i _ => n - (intOf i).toNat)
  case atStart => exact ⟨0, Nat.zero_le _, rfl, Below.refl _ _⟩
  case round =>
    obtain ⟨k, hk, rfl, hbel⟩ := hrel
    by_cases hend : k < n ∧ k < 30
    · obtain ⟨hlt, h20⟩ := hend
      obtain ⟨b, off, ah, al, bh, bl, x, y, m, rfl, ht⟩ := h.at_ k hlt
      replace ht := ht.below hbel
      have hsz := hbel.size
      obtain ⟨hlb, c0, c1, c2, c3, c4, c5, c6, hA, hB, x0, x1, y0, y1, m0, m1⟩ := ht
      have HB := Lib.hid hbel
      clear hbel h
      have E : Env .u64 23 wr.heap.size wr (wr.alloc (.cells #[.int .i64 ah, .int .u64 al, .int .i64 bh, .int .u64 bl, .int .i64 x, .int .i64 y, .int .i64 m] 27)) [] [] [(⟨wr.heap.size, 6, none⟩, .int .i64 m), (⟨wr.heap.size, 5, none⟩, .int .i64 y), (⟨wr.heap.size, 4, none⟩, .int .i64 x), (⟨wr.heap.size, 3, none⟩, .int .u64 bl), (⟨wr.heap.size, 2, none⟩, .int .i64 bh), (⟨wr.heap.size, 1, none⟩, .int .u64 al), (⟨wr.heap.size, 0, none⟩, .int .i64 ah)] :=
        (((((((((Env.start .u64 23 wr)).alloc _).addC (by simp [go_sem])).addC (by simp [go_sem])).addC (by simp [go_sem])).addC (by simp [go_sem])).addC (by simp [go_sem])).addC (by simp [go_sem])).addC (by simp [go_sem])
      have hX8 : -36028797018963968 ≤ x / 256 ∧ x / 256 ≤ 36028797018963967 := by omega
      obtain ⟨X, hX⟩ : ∃ q, x / 256 = q := ⟨_, rfl⟩
      rw [hX] at hX8
      obtain ⟨hX0, hX1⟩ := hX8
      obtain ⟨N1, hN1⟩ : ∃ N : Nat, m % 18446744073709551616 % 60 = N := ⟨(m % 18446744073709551616 % 60).toNat, by omega⟩
      obtain ⟨N2, hN2⟩ : ∃ N : Nat, m.tdiv 60 % 18446744073709551616 % 60 = N := ⟨(m.tdiv 60 % 18446744073709551616 % 60).toNat, by omega⟩
      have hw1 := fun w => Lib.hid (within60 m w)
      have hw2 := fun w => Lib.hid (within60 (m.tdiv 60) w)
      rw [hN1] at hw1
      rw [hN2] at hw2
      have n1 : N1 ≤ 59 := by omega
      have n2 : N2 ≤ 59 := by omega
      have ewn : RowKit.wrap64 ((N1 : Int) + N2) = N1 + N2 := by unfold RowKit.wrap64; omega
      have hfx := fun w => Lib.hid (from_any X w (by omega) (by omega))
      have hf1 : ∀ w, Hid (Calls Try.prog 18 #[.int .i64 1] w (RetW w 0 1)) := fun w => Lib.hid (from_any 1 w (by decide) (by decide))
      have hWF := WR_from X (by omega) (by omega)
      have hVF := V_from X (by omega) (by omega)
      obtain ⟨FH, hFH⟩ : ∃ q, X / 9223372036854775808 = q := ⟨_, rfl⟩
      obtain ⟨FL, hFL⟩ : ∃ q, X % 18446744073709551616 = q := ⟨_, rfl⟩
      rw [hFH, hFL] at hfx hWF hVF
      have hp0 := pow_pos N1
      have hp1 := pow_le59 N1 n1
      have hin1 : inR (X * 2 ^ N1) := by
        have u1 := Int.mul_le_mul_of_nonneg_right hX1 (show 0 ≤ (2 : Int) ^ N1 by omega)
        have u2 := Int.mul_le_mul_of_nonneg_right hX0 (show 0 ≤ (2 : Int) ^ N1 by omega)
        unfold inR
        omega
      have n126a : N1 ≤ 126 := Nat.le_trans n1 (by decide)
      have n126b : N2 ≤ 126 := Nat.le_trans n2 (by decide)
      have n126c : N1 + N2 ≤ 126 := Nat.le_trans (Nat.add_le_add n1 n2) (by decide)
      have hq1 : inR (V FH FL * 2 ^ N1) := by rw [hVF]; exact hin1
      have h1 := fun w => Lib.hid (left_in FH FL N1 w n126a hWF hq1)
      rw [hVF] at h1
      have hWA := WR_split hin1
      have hVA := V_split (X * 2 ^ N1)
      have hback := shift_back X (2 ^ N1) hp0
      obtain ⟨AH, hAH⟩ : ∃ q, X * 2 ^ N1 / 18446744073709551616 = q := ⟨_, rfl⟩
      obtain ⟨AL, hAL⟩ : ∃ q, X * 2 ^ N1 % 18446744073709551616 = q := ⟨_, rfl⟩
      rw [hAH, hAL] at h1 hWA hVA
      obtain ⟨BH, BL, BZ, hB⟩ := left_tells (X * 2 ^ N1 * 2 ^ N2)
      have hq2 : V AH AL * 2 ^ N2 = X * 2 ^ N1 * 2 ^ N2 := by rw [hVA]
      have hq3 : V FH FL * 2 ^ (N1 + N2) = X * 2 ^ N1 * 2 ^ N2 := by rw [hVF, Int.pow_add, Int.mul_assoc]
      have h2 := fun w => Lib.hid (hB AH AL N2 n126b hWA hq2 w)
      have h3 := fun w => Lib.hid (hB FH FL (N1 + N2) n126c hWF hq3 w)
      rw [Int.natCast_add] at h3
      have hin4 : inR (2 ^ N1) := ⟨by omega, by omega⟩
      have e01 : V 0 1 = 1 := by decide
      have hq4 : inR (V 0 1 * 2 ^ N1) := by rw [e01, Int.one_mul]; exact hin4
      have hW01 : WR 0 1 := ⟨by decide, by decide, by decide, by decide⟩
      have h4 := fun w => Lib.hid (left_in 0 1 N1 w n126a hW01 hq4)
      rw [e01, Int.one_mul] at h4
      have hWP := WR_split hin4
      have hVP := V_split ((2 : Int) ^ N1)
      obtain ⟨PH, hPH⟩ : ∃ q, (2 : Int) ^ N1 / 18446744073709551616 = q := ⟨_, rfl⟩
      obtain ⟨PL, hPL⟩ : ∃ q, (2 : Int) ^ N1 % 18446744073709551616 = q := ⟨_, rfl⟩
      rw [hPH, hPL] at h4 hWP hVP
      have hzP : ¬ (PH = 0 ∧ PL = 0) := by rintro ⟨e1, e2⟩; rw [e1, e2] at hVP; unfold V at hVP; omega
      have hAP : A PH PL = 2 ^ N1 := by unfold A; rw [hVP, if_neg (by omega)]
      have hbA := A_bounds AH AL hWA
      have hpb : (2 : Int) ^ N1 < 18446744073709551616 := Int.lt_of_le_of_lt hp1 (by decide)
      have hab : A AH AL < 340282366920938463463374607431768211456 := Int.lt_of_le_of_lt hbA.2 (by decide)
      have hdv : ∀ w, Div (A AH AL) (A PH PL) w := fun w => by rw [hAP]; exact divide_lo _ _ w hbA.1 hab hp0 hpb
      have hiX : inR X := ⟨by omega, by omega⟩
      have hq5 : inR (roundI (V AH AL) (V PH PL)) := by rw [hVA, hVP, hback.1]; exact hiX
      have hq6 : inR (downI (V AH AL) (V PH PL)) := by rw [hVA, hVP, hback.2]; exact hiX
      have hrd := fun w => Lib.hid ((round_of AH AL PH PL w hWA hWP hzP hdv).1 hq5)
      have hdn := fun w => Lib.hid ((down_of AH AL PH PL w hWA hWP hzP hdv).1 hq6)
      have eFH : X / 18446744073709551616 = FH := by omega
      rw [hVA, hVP, hback.1, eFH, hFL] at hrd
      rw [hVA, hVP, hback.2, eFH, hFL] at hdn
      clear hB hback hdv hzP hAP hbA hWP hVP hPH hPL hWA hVA hAH hAL hWF hVF hFH hFL hin1 hin4 eFH hiX hp0 hp1 e01 hN1 hN2 hq1 hq2 hq3 hq4 hq5 hq6 hpb hab hW01 n126a n126b n126c
      have M1 := True.intro
      have M2 := True.intro
      have M3 := True.intro
      have M4 := True.intro
      have M5 := True.intro
      have M6 := True.intro
      have M8 := True.intro
      have M9 := True.intro
      have p0 := E.cell (a := ⟨wr.heap.size, 0, none⟩) (v := .int .i64 ah) (by simp)
      have p1 := E.cell (a := ⟨wr.heap.size, 1, none⟩) (v := .int .u64 al) (by simp)
      have p2 := E.cell (a := ⟨wr.heap.size, 2, none⟩) (v := .int .i64 bh) (by simp)
      have p3 := E.cell (a := ⟨wr.heap.size, 3, none⟩) (v := .int .u64 bl) (by simp)
      have p4 := E.cell (a := ⟨wr.heap.size, 4, none⟩) (v := .int .i64 x) (by simp)
      have p5 := E.cell (a := ⟨wr.heap.size, 5, none⟩) (v := .int .i64 y) (by simp)
      have p6 := E.cell (a := ⟨wr.heap.size, 6, none⟩) (v := .int .i64 m) (by simp)
      go_wp2_with (first | (go_at_call 20; refine (num1_any _ _).mono ?_; rintro e w' ⟨rfl, rfl⟩) | (go_at_call 29; have hmk := M8; clear hmk M8; refine (hw1 _).out.mono ?_; rintro e w' ⟨rfl, rfl⟩) | (go_at_call 29; have hmk := M9; clear hmk M9; refine (hw2 _).out.mono ?_; rintro e w' ⟨rfl, rfl⟩) | (go_at_call 18; have hmk := M5; clear hmk M5; go_loud (refine ((hfx _).out).mono ?_; rintro e w1 ⟨rfl, hb⟩; replace E := (((E.next hb).alloc (.cells #[.int .i64 FH, .int .u64 FL] 25)).addC (a := ⟨w1.heap.size, 0, none⟩) (v := .int .i64 FH) (by simp [go_sem])).addC (a := ⟨w1.heap.size, 1, none⟩) (v := .int .u64 FL) (by simp [go_sem]); clear hb; have qx0 := E.cell (a := ⟨w1.heap.size, 0, none⟩) (v := .int .i64 FH) (by simp); have qx1 := E.cell (a := ⟨w1.heap.size, 1, none⟩) (v := .int .u64 FL) (by simp))) | (go_at_call 18; have hmk := M6; clear hmk M6; go_loud (refine ((hf1 _).out).mono ?_; rintro e w5 ⟨rfl, hb⟩; replace E := E.next hb; clear hb; have qx0 := E.cell (a := ⟨w1.heap.size, 0, none⟩) (v := .int .i64 FH) (by simp); have qx1 := E.cell (a := ⟨w1.heap.size, 1, none⟩) (v := .int .u64 FL) (by simp); have qa0 := E.cell (a := ⟨w2.heap.size, 0, none⟩) (v := .int .i64 AH) (by simp); have qa1 := E.cell (a := ⟨w2.heap.size, 1, none⟩) (v := .int .u64 AL) (by simp))) | (go_at_call 30; have hmk := M1; clear hmk M1; go_loud (refine ((h1 _).out).mono ?_; rintro e w2 ⟨rfl, hb⟩; replace E := (((E.next hb).alloc (.cells #[.int .i64 AH, .int .u64 AL] 25)).addC (a := ⟨w2.heap.size, 0, none⟩) (v := .int .i64 AH) (by simp [go_sem])).addC (a := ⟨w2.heap.size, 1, none⟩) (v := .int .u64 AL) (by simp [go_sem]); clear hb; have qx0 := E.cell (a := ⟨w1.heap.size, 0, none⟩) (v := .int .i64 FH) (by simp); have qx1 := E.cell (a := ⟨w1.heap.size, 1, none⟩) (v := .int .u64 FL) (by simp); have qa0 := E.cell (a := ⟨w2.heap.size, 0, none⟩) (v := .int .i64 AH) (by simp); have qa1 := E.cell (a := ⟨w2.heap.size, 1, none⟩) (v := .int .u64 AL) (by simp))) | (go_at_call 30; have hmk := M2; clear hmk M2; go_loud (refine ((h2 _).out).mono ?_; rintro e w3 ⟨rfl, hb⟩; replace E := (((E.next hb).alloc (.cells #[.int .i64 BH, .int .u64 BL] 25)).addC (a := ⟨w3.heap.size, 0, none⟩) (v := .int .i64 BH) (by simp [go_sem])).addC (a := ⟨w3.heap.size, 1, none⟩) (v := .int .u64 BL) (by simp [go_sem]); clear hb; have qx0 := E.cell (a := ⟨w1.heap.size, 0, none⟩) (v := .int .i64 FH) (by simp); have qx1 := E.cell (a := ⟨w1.heap.size, 1, none⟩) (v := .int .u64 FL) (by simp); have qa0 := E.cell (a := ⟨w2.heap.size, 0, none⟩) (v := .int .i64 AH) (by simp); have qa1 := E.cell (a := ⟨w2.heap.size, 1, none⟩) (v := .int .u64 AL) (by simp); have qb0 := E.cell (a := ⟨w3.heap.size, 0, none⟩) (v := .int .i64 BH) (by simp); have qb1 := E.cell (a := ⟨w3.heap.size, 1, none⟩) (v := .int .u64 BL) (by simp))) | (go_at_call 30; have hmk := M3; clear hmk M3; go_loud (refine ((h3 _).out).mono ?_; rintro e w4 ⟨rfl, hb⟩; replace E := (((E.next hb).alloc (.cells #[.int .i64 BH, .int .u64 BL] 25)).addC (a := ⟨w4.heap.size, 0, none⟩) (v := .int .i64 BH) (by simp [go_sem])).addC (a := ⟨w4.heap.size, 1, none⟩) (v := .int .u64 BL) (by simp [go_sem]); clear hb; have qx0 := E.cell (a := ⟨w1.heap.size, 0, none⟩) (v := .int .i64 FH) (by simp); have qx1 := E.cell (a := ⟨w1.heap.size, 1, none⟩) (v := .int .u64 FL) (by simp); have qa0 := E.cell (a := ⟨w2.heap.size, 0, none⟩) (v := .int .i64 AH) (by simp); have qa1 := E.cell (a := ⟨w2.heap.size, 1, none⟩) (v := .int .u64 AL) (by simp); have qb0 := E.cell (a := ⟨w3.heap.size, 0, none⟩) (v := .int .i64 BH) (by simp); have qb1 := E.cell (a := ⟨w3.heap.size, 1, none⟩) (v := .int .u64 BL) (by simp); have qc0 := E.cell (a := ⟨w4.heap.size, 0, none⟩) (v := .int .i64 BH) (by simp); have qc1 := E.cell (a := ⟨w4.heap.size, 1, none⟩) (v := .int .u64 BL) (by simp))) | (go_at_call 30; have hmk := M4; clear hmk M4; go_loud (refine ((h4 _).out).mono ?_; rintro e w6 ⟨rfl, hb⟩; replace E := (((E.next hb).alloc (.cells #[.int .i64 PH, .int .u64 PL] 25)).addC (a := ⟨w6.heap.size, 0, none⟩) (v := .int .i64 PH) (by simp [go_sem])).addC (a := ⟨w6.heap.size, 1, none⟩) (v := .int .u64 PL) (by simp [go_sem]); clear hb; have qx0 := E.cell (a := ⟨w1.heap.size, 0, none⟩) (v := .int .i64 FH) (by simp); have qx1 := E.cell (a := ⟨w1.heap.size, 1, none⟩) (v := .int .u64 FL) (by simp); have qa0 := E.cell (a := ⟨w2.heap.size, 0, none⟩) (v := .int .i64 AH) (by simp); have qa1 := E.cell (a := ⟨w2.heap.size, 1, none⟩) (v := .int .u64 AL) (by simp); have qp0 := E.cell (a := ⟨w6.heap.size, 0, none⟩) (v := .int .i64 PH) (by simp); have qp1 := E.cell (a := ⟨w6.heap.size, 1, none⟩) (v := .int .u64 PL) (by simp))) | (go_at_call 14; go_loud (refine ((hrd _).out).mono ?_; rintro e w7 ⟨rfl, hb⟩; replace E := (((E.next hb).alloc (.cells #[.int .i64 FH, .int .u64 FL] 25)).addC (a := ⟨w7.heap.size, 0, none⟩) (v := .int .i64 FH) (by simp [go_sem])).addC (a := ⟨w7.heap.size, 1, none⟩) (v := .int .u64 FL) (by simp [go_sem]); clear hb; have qx0 := E.cell (a := ⟨w1.heap.size, 0, none⟩) (v := .int .i64 FH) (by simp); have qx1 := E.cell (a := ⟨w1.heap.size, 1, none⟩) (v := .int .u64 FL) (by simp); have qa0 := E.cell (a := ⟨w2.heap.size, 0, none⟩) (v := .int .i64 AH) (by simp); have qa1 := E.cell (a := ⟨w2.heap.size, 1, none⟩) (v := .int .u64 AL) (by simp); have qp0 := E.cell (a := ⟨w6.heap.size, 0, none⟩) (v := .int .i64 PH) (by simp); have qp1 := E.cell (a := ⟨w6.heap.size, 1, none⟩) (v := .int .u64 PL) (by simp); have qd0 := E.cell (a := ⟨w7.heap.size, 0, none⟩) (v := .int .i64 FH) (by simp); have qd1 := E.cell (a := ⟨w7.heap.size, 1, none⟩) (v := .int .u64 FL) (by simp))) | (go_at_call 15; go_loud (refine ((hdn _).out).mono ?_; rintro e w8 ⟨rfl, hb⟩; replace E := (((E.next hb).alloc (.cells #[.int .i64 FH, .int .u64 FL] 25)).addC (a := ⟨w8.heap.size, 0, none⟩) (v := .int .i64 FH) (by simp [go_sem])).addC (a := ⟨w8.heap.size, 1, none⟩) (v := .int .u64 FL) (by simp [go_sem]); clear hb; have qx0 := E.cell (a := ⟨w1.heap.size, 0, none⟩) (v := .int .i64 FH) (by simp); have qx1 := E.cell (a := ⟨w1.heap.size, 1, none⟩) (v := .int .u64 FL) (by simp); have qd0 := E.cell (a := ⟨w7.heap.size, 0, none⟩) (v := .int .i64 FH) (by simp); have qd1 := E.cell (a := ⟨w7.heap.size, 1, none⟩) (v := .int .u64 FL) (by simp); have qk0 := E.cell (a := ⟨w8.heap.size, 0, none⟩) (v := .int .i64 FH) (by simp); have qk1 := E.cell (a := ⟨w8.heap.size, 1, none⟩) (v := .int .u64 FL) (by simp))))
      refine ⟨⟨k + 1, by omega, by go_num, HB.out.trans (E.bel.mono hsz)⟩, ?_⟩
      simp [intOf]; omega
    · have HB := Lib.hid hbel
      clear hbel h
      by_cases hlt : k < n
      · have hk15 : ¬ (k : Int) < 30 := by omega
        have hkn : (k : Int) < n := by omega
        go_wp2_with (first | (go_at_call 17; refine (wakes1_any _).mono ?_; rintro e w1 ⟨rfl, hb⟩; have HW1 := Lib.hid hb; clear hb))
        go_ret
        exact ⟨rfl, HB.out.trans (HW1.out.mono HB.out.size)⟩
      · have hkn : ¬ (k : Int) < n := by omega
        go_wp2_with (first | (go_at_call 17; refine (wakes1_any _).mono ?_; rintro e w1 ⟨rfl, hb⟩; have HW1 := Lib.hid hb; clear hb))
        go_ret
        exact ⟨rfl, HB.out.trans (HW1.out.mono HB.out.size)⟩
end Go.Proofs.Ytlbmpdidmckgkaa
