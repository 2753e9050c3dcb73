/- The law WideLaws, walked. -/
import Derived.Test.YtlbmpdidmckgkaaWide9
import Derived.Test.YtlbmpdidmckgkaaEnv
import Derived.Deep.RegionHeld3
import Derived.Deep.Cut
import Derived.Deep.CutRange
set_option linter.unusedVariables false
set_option linter.unusedSimpArgs false
namespace Go.Proofs.Ytlbmpdidmckgkaa
open Go.RowKit Go.Rt

theorem cmpI_swap (a b : Int) : cmpI b a = -cmpI a b := by unfold cmpI; (repeat' split) <;> omega
theorem cmpI_bounds (a b : Int) : -1 ≤ cmpI a b ∧ cmpI a b ≤ 1 := by unfold cmpI; (repeat' split) <;> omega
theorem cmpI_zero {a b : Int} : cmpI a b = 0 ↔ a = b := by unfold cmpI; constructor <;> intro h <;> (repeat' split at h) <;> (try split) <;> omega
theorem cmpI_sub (a b : Int) : cmpI (a - b) 0 = cmpI a b := by unfold cmpI; (repeat' split) <;> omega
theorem cmpI_succ (a : Int) : cmpI (a + 1) a = 1 := by unfold cmpI; (repeat' split) <;> omega
theorem V_split (s : Int) : V (s / 18446744073709551616) (s % 18446744073709551616) = s := by unfold V; omega
theorem V_from (x : Int) (h0 : -9223372036854775808 ≤ x) (h1 : x ≤ 9223372036854775807) : V (x / 9223372036854775808) (x % 18446744073709551616) = x := by unfold V; omega
theorem WR_from (x : Int) (h0 : -9223372036854775808 ≤ x) (h1 : x ≤ 9223372036854775807) : WR (x / 9223372036854775808) (x % 18446744073709551616) := ⟨by omega, by omega, by omega, by omega⟩
theorem WR_split {s : Int} (h : inR s) : WR (s / 18446744073709551616) (s % 18446744073709551616) := by unfold inR at h; exact ⟨by omega, by omega, by omega, by omega⟩
theorem cellOf {B : Nat} {Wb w' : World} {a : Addr} {v : Value} (h : Below B Wb w') (hc : Wb.cell? a = some v) (hlt : a.block < B) : w'.cell? a = some v := (h.cell (p := a) hlt).trans hc
theorem heldTrans {Wb w w' : World} {p : Prop} (h : Below Wb.heap.size Wb w ∧ p) (hb : Below w.heap.size w w') : Below Wb.heap.size Wb w' := h.1.trans (hb.mono h.1.size)
theorem heldAlloc {Wb w : World} {p : Prop} (h : Below Wb.heap.size Wb w ∧ p) (o : Obj) : Below Wb.heap.size Wb (w.alloc o) := h.1.alloc h.1.size _
theorem heldSet {Wb w : World} {p : Prop} {ad : Addr} (h : Below Wb.heap.size Wb w ∧ p) (hle : Wb.heap.size ≤ ad.block) (v : Value) : Below Wb.heap.size Wb (w.setCell ad v) := h.1.setCell hle _
theorem heldSet2 {Wb w : World} {p : Prop} {ad : Addr} (h : Below Wb.heap.size Wb w ∧ p) (hle : Wb.heap.size ≤ ad.block) (v : Value) : Below Wb.heap.size Wb (w.setCell ad v) ∧ True := ⟨h.1.setCell hle _, trivial⟩
theorem heldRe {Wb w : World} {p : Prop} {o : Obj} (h : Below Wb.heap.size Wb (w.alloc o) ∧ p) (hle : Wb.heap.size ≤ w.heap.size) (o' : Obj) : Below Wb.heap.size Wb (w.alloc o') := by
  have k1 : Below w.heap.size w (w.alloc o) := (Below.refl _ _).alloc (Nat.le_refl _) _
  have k2 : Below w.heap.size w (w.alloc o') := (Below.refl _ _).alloc (Nat.le_refl _) _
  exact ⟨k2.os.trans (k1.os.symm.trans h.1.os), k2.tape.trans (k1.tape.symm.trans h.1.tape), k2.output.trans (k1.output.symm.trans h.1.output), Nat.le_trans hle k2.size,
    fun i hi => (k2.block i (Nat.lt_of_lt_of_le hi hle)).trans ((k1.block i (Nat.lt_of_lt_of_le hi hle)).symm.trans (h.1.block i hi))⟩
theorem zz {n : Nat} {W w' : World} (hb : Below n W w') (b : Nat) (hlt : b < n) : w'.cell? ⟨b, 0, none⟩ = W.cell? ⟨b, 0, none⟩ ∧ w'.cell? ⟨b, 1, none⟩ = W.cell? ⟨b, 1, none⟩ ∧ w'.frozen? ⟨b, 0, none⟩ = W.frozen? ⟨b, 0, none⟩ ∧ w'.frozen? ⟨b, 1, none⟩ = W.frozen? ⟨b, 1, none⟩ :=
  ⟨hb.cell (p := ⟨b, 0, none⟩) hlt, hb.cell (p := ⟨b, 1, none⟩) hlt, hb.frozen (p := ⟨b, 0, none⟩) hlt, hb.frozen (p := ⟨b, 1, none⟩) hlt⟩
theorem heldB {Wb w : World} {p : Prop} (h : Below Wb.heap.size Wb w ∧ p) : Below Wb.heap.size Wb w := h.1

theorem envW {k : IntKind} {e : TypeId} {B : Nat} {w0 W : World} {L : List (Option Addr × List Int)} {O : List (Nat × Option Addr × Nat × List Int)} {C : List (Addr × Value)} (E : Env k e B w0 W L O C) : ∃ Wb, W = Wb := ⟨_, rfl⟩
theorem mul_quarter (x y : Int) (h0 : -2305843009213693952 ≤ x) (h1 : x ≤ 2305843009213693951) (k0 : -9223372036854775808 ≤ y) (k1 : y ≤ 9223372036854775807) :
    -21267647932558653966460912964485513216 ≤ x * y ∧ x * y ≤ 21267647932558653966460912964485513216 := by
  have hx : 0 ≤ absI x ∧ absI x ≤ 2305843009213693952 := by unfold absI; split <;> omega
  have hy := abs_bounds y k0 k1
  have h : 0 ≤ absI x * absI y ∧ absI x * absI y ≤ 21267647932558653966460912964485513216 := ⟨Int.mul_nonneg hx.1 hy.1, Int.le_trans (Int.mul_le_mul hx.2 hy.2 hy.1 (by omega)) (by omega)⟩
  have e := abs_mul x y
  split at e <;> omega

set_option maxHeartbeats 3000000 in
set_option maxRecDepth 100000 in
theorem wideLaws_any (a : Option Addr) (n c : Nat) (w : World) (h : PairsAt w w.heap.size a n) :
    Calls Try.prog 8 #[.slice a n c] w fun e w' => e = .returned (.bool true) ∧ Below w.heap.size w w' := by
  have hm := h.len
  go_enter Try.func8, Try.ntmps8
  go_wp2_with fail
  go_loopw [3] (fun i wr => ∃ k : Nat, k ≤ n ∧ i = .int .i64 k ∧ Below w.heap.size w wr) (fun i _ => n - (intOf i).toNat)
  case atStart => exact ⟨0, Nat.zero_le _, rfl, Below.refl _ _⟩
  case round =>
    obtain ⟨k, hk, rfl, hbel⟩ := hrel
    by_cases hend : k < n ∧ k < 30
    · obtain ⟨hlt, h20⟩ := hend
      obtain ⟨b, off, ah, al, bh, bl, x, y, m, rfl, ht⟩ := h.at_ k hlt
      replace ht := ht.below hbel
      have hsz := hbel.size
      obtain ⟨hlb, c0, c1, c2, c3, c4, c5, c6, hA, hB, x0, x1, y0, y1, m0, m1⟩ := ht
      have HB := Lib.hid hbel
      clear hbel h
      have E : Env .u64 23 wr.heap.size wr (wr.alloc (.cells #[.int .i64 ah, .int .u64 al, .int .i64 bh, .int .u64 bl, .int .i64 x, .int .i64 y, .int .i64 m] 27)) [] [] [(⟨wr.heap.size, 6, none⟩, .int .i64 m), (⟨wr.heap.size, 5, none⟩, .int .i64 y), (⟨wr.heap.size, 4, none⟩, .int .i64 x), (⟨wr.heap.size, 3, none⟩, .int .u64 bl), (⟨wr.heap.size, 2, none⟩, .int .i64 bh), (⟨wr.heap.size, 1, none⟩, .int .u64 al), (⟨wr.heap.size, 0, none⟩, .int .i64 ah)] :=
        (((((((((Env.start .u64 23 wr)).alloc _).addC (by simp [go_sem])).addC (by simp [go_sem])).addC (by simp [go_sem])).addC (by simp [go_sem])).addC (by simp [go_sem])).addC (by simp [go_sem])).addC (by simp [go_sem])
      have hx4 : -2305843009213693952 ≤ x / 4 ∧ x / 4 ≤ 2305843009213693951 := by omega
      have hy4 : -2305843009213693952 ≤ y / 4 ∧ y / 4 ≤ 2305843009213693951 := by omega
      obtain ⟨X, hX⟩ : ∃ q, x / 4 = q := ⟨_, rfl⟩
      obtain ⟨Y, hY⟩ : ∃ q, y / 4 = q := ⟨_, rfl⟩
      rw [hX] at hx4
      rw [hY] at hy4
      obtain ⟨hX0, hX1⟩ := hx4
      obtain ⟨hY0, hY1⟩ := hy4
      have hmx := fun w => Lib.hid (mul_any X m w (by omega) (by omega) m0 m1)
      have hmy := fun w => Lib.hid (mul_any Y m w (by omega) (by omega) m0 m1)
      have hms := fun w => Lib.hid (mul_any (X + Y) m w (by omega) (by omega) m0 m1)
      have bx := mul_quarter X m (by omega) (by omega) m0 m1
      have by' := mul_quarter Y m (by omega) (by omega) m0 m1
      have hir : ∀ s : Int, -21267647932558653966460912964485513216 ≤ s ∧ s ≤ 21267647932558653966460912964485513216 → inR s := fun s hs => ⟨by omega, by omega⟩
      have hxy := fun w => Lib.hid (add_in (X * m / 18446744073709551616) (X * m % 18446744073709551616) (Y * m / 18446744073709551616) (Y * m % 18446744073709551616) w (WR_split (hir _ bx)) (WR_split (hir _ by')) (by rw [V_split, V_split]; exact ⟨by omega, by omega⟩))
      rw [V_split, V_split, ← Int.add_mul] at hxy
      obtain ⟨EH, hEH⟩ : ∃ q, X * m / 18446744073709551616 = q := ⟨_, rfl⟩
      obtain ⟨EL, hEL⟩ : ∃ q, X * m % 18446744073709551616 = q := ⟨_, rfl⟩
      obtain ⟨FH, hFH⟩ : ∃ q, Y * m / 18446744073709551616 = q := ⟨_, rfl⟩
      obtain ⟨FL, hFL⟩ : ∃ q, Y * m % 18446744073709551616 = q := ⟨_, rfl⟩
      obtain ⟨GH, hGH⟩ : ∃ q, (X + Y) * m / 18446744073709551616 = q := ⟨_, rfl⟩
      obtain ⟨GL, hGL⟩ : ∃ q, (X + Y) * m % 18446744073709551616 = q := ⟨_, rfl⟩
      rw [hEH, hEL] at hmx hxy
      rw [hFH, hFL] at hmy hxy
      rw [hGH, hGL] at hms hxy
      clear hEH hEL hFH hFL hGH hGL bx by' hir
      have hXY : RowKit.wrap64 (X + Y) = X + Y := by unfold RowKit.wrap64; omega
      have hXY2 : IntKind.i64.wrap (X + Y) = X + Y := by rw [wrapI]; omega
      have hms2 : ∀ w, Hid (Calls Try.prog 36 #[.int .i64 (IntKind.i64.wrap (X + Y)), .int .i64 m] w (RetW w GH GL)) := fun w => by rw [hXY2]; exact hms w
      clear hXY2
      have M1 := True.intro
      have M2 := True.intro
      have M3 := True.intro
      have M4 := True.intro
      by_cases hin : inR (V ah al + V bh bl)
      · have hin' : inR (V bh bl + V ah al) := by rw [Int.add_comm]; exact hin
        have ha1 := fun w => Lib.hid (add_in ah al bh bl w hA hB hin)
        have ha2 := fun w => Lib.hid (add_in bh bl ah al w hB hA hin')
        have hWS := WR_split hin
        have hVS := V_split (V ah al + V bh bl)
        rw [Int.add_comm (V bh bl) (V ah al)] at ha2
        obtain ⟨SH, hSH⟩ : ∃ q, (V ah al + V bh bl) / 18446744073709551616 = q := ⟨_, rfl⟩
        obtain ⟨SL, hSL⟩ : ∃ q, (V ah al + V bh bl) % 18446744073709551616 = q := ⟨_, rfl⟩
        rw [hSH, hSL] at ha1 ha2 hWS hVS
        have hd : V SH SL - V bh bl = V ah al := by rw [hVS]; omega
        have hav : V ah al / 18446744073709551616 = ah ∧ V ah al % 18446744073709551616 = al := by obtain ⟨_, _, _, _⟩ := hA; unfold V; omega
        have hsub := fun w => Lib.hid (sub_in SH SL bh bl w hWS hB (by rw [hd]; obtain ⟨_, _, _, _⟩ := hA; unfold V inR; omega))
        rw [hd, hav.1, hav.2] at hsub
        have hcm := fun w => Lib.hid (cmp_any SH SL bh bl w hWS hB)
        have hsg := fun w => Lib.hid (sign_any ah al w hA)
        have hk : cmpI (V SH SL) (V bh bl) = cmpI (V ah al) 0 := by rw [← hd, cmpI_sub]
        rw [hk] at hcm
        obtain ⟨K, hK⟩ : ∃ q, cmpI (V ah al) 0 = q := ⟨_, rfl⟩
        rw [hK] at hcm hsg
        clear hK hk hav hd hVS hWS hSH hSL hin hin'
        go_upto_region 11 with (first | (go_at_call 33; have hmk := M1; clear hmk M1; go_loud (refine ((ha1 _).out).mono ?_; rintro e w1 ⟨rfl, hb⟩; replace E := (((E.next hb).alloc (.cells #[.int .i64 SH, .int .u64 SL] 25)).addC (a := ⟨w1.heap.size, 0, none⟩) (v := .int .i64 SH) (by simp [go_sem])).addC (a := ⟨w1.heap.size, 1, none⟩) (v := .int .u64 SL) (by simp [go_sem]); clear hb; have p0 := E.cell (a := ⟨wr.heap.size, 0, none⟩) (v := .int .i64 ah) (by simp); have p1 := E.cell (a := ⟨wr.heap.size, 1, none⟩) (v := .int .u64 al) (by simp); have p2 := E.cell (a := ⟨wr.heap.size, 2, none⟩) (v := .int .i64 bh) (by simp); have p3 := E.cell (a := ⟨wr.heap.size, 3, none⟩) (v := .int .u64 bl) (by simp); have p4 := E.cell (a := ⟨wr.heap.size, 4, none⟩) (v := .int .i64 x) (by simp); have p5 := E.cell (a := ⟨wr.heap.size, 5, none⟩) (v := .int .i64 y) (by simp); have p6 := E.cell (a := ⟨wr.heap.size, 6, none⟩) (v := .int .i64 m) (by simp))) | (go_at_call 33; have hmk := M2; clear hmk M2; go_loud (refine ((ha2 _).out).mono ?_; rintro e w2 ⟨rfl, hb⟩; replace E := (((E.next hb).alloc (.cells #[.int .i64 SH, .int .u64 SL] 25)).addC (a := ⟨w2.heap.size, 0, none⟩) (v := .int .i64 SH) (by simp [go_sem])).addC (a := ⟨w2.heap.size, 1, none⟩) (v := .int .u64 SL) (by simp [go_sem]); clear hb; have p0 := E.cell (a := ⟨wr.heap.size, 0, none⟩) (v := .int .i64 ah) (by simp); have p1 := E.cell (a := ⟨wr.heap.size, 1, none⟩) (v := .int .u64 al) (by simp); have p2 := E.cell (a := ⟨wr.heap.size, 2, none⟩) (v := .int .i64 bh) (by simp); have p3 := E.cell (a := ⟨wr.heap.size, 3, none⟩) (v := .int .u64 bl) (by simp); have p4 := E.cell (a := ⟨wr.heap.size, 4, none⟩) (v := .int .i64 x) (by simp); have p5 := E.cell (a := ⟨wr.heap.size, 5, none⟩) (v := .int .i64 y) (by simp); have p6 := E.cell (a := ⟨wr.heap.size, 6, none⟩) (v := .int .i64 m) (by simp); have q0 := E.cell (a := ⟨w1.heap.size, 0, none⟩) (v := .int .i64 SH) (by simp); have q1 := E.cell (a := ⟨w1.heap.size, 1, none⟩) (v := .int .u64 SL) (by simp))) | (go_at_call 20; refine (num1_any _ _).mono ?_; rintro e w' ⟨rfl, rfl⟩) | (go_at_call 28; go_loud (refine ((hsub _).out).mono ?_; rintro e w3 ⟨rfl, hb⟩; replace E := (((E.next hb).alloc (.cells #[.int .i64 ah, .int .u64 al] 25)).addC (a := ⟨w3.heap.size, 0, none⟩) (v := .int .i64 ah) (by simp [go_sem])).addC (a := ⟨w3.heap.size, 1, none⟩) (v := .int .u64 al) (by simp [go_sem]); clear hb; have p0 := E.cell (a := ⟨wr.heap.size, 0, none⟩) (v := .int .i64 ah) (by simp); have p1 := E.cell (a := ⟨wr.heap.size, 1, none⟩) (v := .int .u64 al) (by simp); have p2 := E.cell (a := ⟨wr.heap.size, 2, none⟩) (v := .int .i64 bh) (by simp); have p3 := E.cell (a := ⟨wr.heap.size, 3, none⟩) (v := .int .u64 bl) (by simp); have p4 := E.cell (a := ⟨wr.heap.size, 4, none⟩) (v := .int .i64 x) (by simp); have p5 := E.cell (a := ⟨wr.heap.size, 5, none⟩) (v := .int .i64 y) (by simp); have p6 := E.cell (a := ⟨wr.heap.size, 6, none⟩) (v := .int .i64 m) (by simp))))
        obtain ⟨Wc, hWc⟩ : ∃ Wc : World, Wc = w3.alloc (.cells #[.int .i64 ah, .int .u64 al] 25) := ⟨_, rfl⟩
        rw [← hWc] at E ⊢
        have r0 := E.cell (a := ⟨wr.heap.size, 0, none⟩) (v := .int .i64 ah) (by simp)
        have r1 := E.cell (a := ⟨wr.heap.size, 1, none⟩) (v := .int .u64 al) (by simp)
        have r2 := E.cell (a := ⟨wr.heap.size, 2, none⟩) (v := .int .i64 bh) (by simp)
        have r3 := E.cell (a := ⟨wr.heap.size, 3, none⟩) (v := .int .u64 bl) (by simp)
        have r4 := E.cell (a := ⟨w1.heap.size, 0, none⟩) (v := .int .i64 SH) (by simp)
        have r5 := E.cell (a := ⟨w1.heap.size, 1, none⟩) (v := .int .u64 SL) (by simp)
        have r6 := E.cell (a := ⟨w3.heap.size, 0, none⟩) (v := .int .i64 ah) (by simp)
        have r7 := E.cell (a := ⟨w3.heap.size, 1, none⟩) (v := .int .u64 al) (by simp)
        have R0 := Lib.hid r0
        have R1 := Lib.hid r1
        have R2 := Lib.hid r2
        have R3 := Lib.hid r3
        have R4 := Lib.hid r4
        have R5 := Lib.hid r5
        have R6 := Lib.hid r6
        have R7 := Lib.hid r7
        have hl0 : wr.heap.size < Wc.heap.size := (E.cells (⟨wr.heap.size, 5, none⟩, .int .i64 y) (by simp)).2
        have hl1 : w1.heap.size < Wc.heap.size := (E.cells (⟨w1.heap.size, 0, none⟩, .int .i64 SH) (by simp)).2
        have hl3 : w3.heap.size < Wc.heap.size := (E.cells (⟨w3.heap.size, 0, none⟩, .int .i64 ah) (by simp)).2
        clear hWc
        have EB := Lib.hid E
        clear E p0 p1 p2 p3 p4 p5 p6 r0 r1 r2 r3 r4 r5 r6 r7
        (try clear q0 q1)
        go_region_held3 (fun w' => Below Wc.heap.size Wc w' ∧ w'.cell? ⟨wr.heap.size, 0, none⟩ = some (.int .i64 ah) ∧ w'.cell? ⟨wr.heap.size, 1, none⟩ = some (.int .u64 al) ∧ w'.cell? ⟨wr.heap.size, 2, none⟩ = some (.int .i64 bh) ∧ w'.cell? ⟨wr.heap.size, 3, none⟩ = some (.int .u64 bl) ∧ w'.cell? ⟨w1.heap.size, 0, none⟩ = some (.int .i64 SH) ∧ w'.cell? ⟨w1.heap.size, 1, none⟩ = some (.int .u64 SL) ∧ w'.cell? ⟨w3.heap.size, 0, none⟩ = some (.int .i64 ah) ∧ w'.cell? ⟨w3.heap.size, 1, none⟩ = some (.int .u64 al)) (first | assumption | exact (fun (hq : Below Wc.heap.size Wc _) => (And.intro hq (And.intro (cellOf hq R0.out hl0) (And.intro (cellOf hq R1.out hl0) (And.intro (cellOf hq R2.out hl0) (And.intro (cellOf hq R3.out hl0) (And.intro (cellOf hq R4.out hl1) (And.intro (cellOf hq R5.out hl1) (And.intro (cellOf hq R6.out hl3) (cellOf hq R7.out hl3)))))))))) (Below.drew (Below.refl _ _)) | exact (fun (hq : Below Wc.heap.size Wc _) => (And.intro hq (And.intro (cellOf hq R0.out hl0) (And.intro (cellOf hq R1.out hl0) (And.intro (cellOf hq R2.out hl0) (And.intro (cellOf hq R3.out hl0) (And.intro (cellOf hq R4.out hl1) (And.intro (cellOf hq R5.out hl1) (And.intro (cellOf hq R6.out hl3) (cellOf hq R7.out hl3)))))))))) (heldTrans (by assumption) (by assumption)))
          (first | (go_at_call 20; refine (num1_any _ _).mono ?_; rintro e w' ⟨rfl, rfl⟩) | (go_at_call 31; refine ((hcm _).out).mono ?_; rintro e wd ⟨rfl, hb⟩) | (go_at_call 32; refine ((hsg _).out).mono ?_; rintro e we ⟨rfl, hb⟩))
        all_goals
          have hbW := heldB (by assumption)
          have E := EB.out.next hbW
          clear EB hbW
          clear R0 R1 R2 R3 R4 R5 R6 R7
          have p0 := E.cell (a := ⟨wr.heap.size, 0, none⟩) (v := .int .i64 ah) (by simp); have p1 := E.cell (a := ⟨wr.heap.size, 1, none⟩) (v := .int .u64 al) (by simp); have p2 := E.cell (a := ⟨wr.heap.size, 2, none⟩) (v := .int .i64 bh) (by simp); have p3 := E.cell (a := ⟨wr.heap.size, 3, none⟩) (v := .int .u64 bl) (by simp); have p4 := E.cell (a := ⟨wr.heap.size, 4, none⟩) (v := .int .i64 x) (by simp); have p5 := E.cell (a := ⟨wr.heap.size, 5, none⟩) (v := .int .i64 y) (by simp); have p6 := E.cell (a := ⟨wr.heap.size, 6, none⟩) (v := .int .i64 m) (by simp)
          go_upto_region 15 with fail
          clear p0 p1 p2 p3 p4 p5 p6
          obtain ⟨Wb, hWb⟩ := envW E
          rw [hWb] at E ⊢
          clear hWb
          have hI6 := E.cell (a := ⟨wr.heap.size, 6, none⟩) (v := .int .i64 m) (by simp)
          have hwlt : wr.heap.size < Wb.heap.size := (E.cells (⟨wr.heap.size, 5, none⟩, .int .i64 y) (by simp)).2
          have HI6 := Lib.hid hI6
          have EB := Lib.hid E
          clear E hI6
          go_cut [13, 14] from 91 to 114 (fun s13 s14 wx => ∃ (blk : Nat), s13 = .pointer (some ⟨blk, 0, none⟩) ∧ s14 = .int .i64 0 ∧ wx.cell? ⟨blk, 0, none⟩ = some (.int .i64 GH) ∧ wx.cell? ⟨blk, 1, none⟩ = some (.int .u64 GL) ∧ Below Wb.heap.size Wb wx)
          case first =>
            go_region_held3 (fun w' => Below Wb.heap.size Wb w' ∧ w'.cell? ⟨wr.heap.size, 6, none⟩ = some (.int .i64 m)) (first | assumption | exact (fun (hq : Below Wb.heap.size Wb _) => And.intro hq (cellOf hq HI6.out hwlt)) (Below.drew (Below.refl _ _)) | exact (fun (hq : Below Wb.heap.size Wb _) => And.intro hq (cellOf hq HI6.out hwlt)) (heldTrans (by assumption) (by assumption)) | exact (fun (hq : Below Wb.heap.size Wb _) => And.intro hq (cellOf hq HI6.out hwlt)) (heldAlloc (by assumption) _) | exact (fun (hq : Below Wb.heap.size Wb _) => And.intro hq (cellOf hq HI6.out hwlt)) (heldSet (heldSet2 (by assumption) (by first | omega | (simp <;> omega)) _) (by first | omega | (simp <;> omega)) _) | exact (fun (hq : Below Wb.heap.size Wb _) => And.intro hq (cellOf hq HI6.out hwlt)) (heldSet (by assumption) (by first | omega | (simp <;> omega)) _) | exact (fun (hq : Below Wb.heap.size Wb _) => And.intro hq (cellOf hq HI6.out hwlt)) (heldRe (by assumption) (by first | omega | (simp <;> omega)) _))
              (first | (go_at_call 36; have hmk := M3; clear hmk M3; refine ((hmx _).out).mono ?_; rintro e w5 ⟨rfl, hb⟩; have hs5 := hb.size; (try simp at hs5); have zac0 := fun hq => (hb.cell (p := ⟨Wb.heap.size, 0, none⟩) hq); (try simp at zac0); have zaf0 := fun hq => (hb.frozen (p := ⟨Wb.heap.size, 0, none⟩) hq); (try simp at zaf0); have zac1 := fun hq => (hb.cell (p := ⟨Wb.heap.size, 1, none⟩) hq); (try simp at zac1); have zaf1 := fun hq => (hb.frozen (p := ⟨Wb.heap.size, 1, none⟩) hq); (try simp at zaf1)) | (go_at_call 36; have hmk := M4; clear hmk M4; refine ((hmy _).out).mono ?_; rintro e w6 ⟨rfl, hb⟩; have hs6 := hb.size; (try simp at hs6); have zbc0 := fun hq => (hb.cell (p := ⟨Wb.heap.size, 0, none⟩) hq); (try simp at zbc0); (first | replace zbc0 := zbc0 hs5 | skip); have zbf0 := fun hq => (hb.frozen (p := ⟨Wb.heap.size, 0, none⟩) hq); (try simp at zbf0); (first | replace zbf0 := zbf0 hs5 | skip); have zbc1 := fun hq => (hb.cell (p := ⟨Wb.heap.size, 1, none⟩) hq); (try simp at zbc1); (first | replace zbc1 := zbc1 hs5 | skip); have zbf1 := fun hq => (hb.frozen (p := ⟨Wb.heap.size, 1, none⟩) hq); (try simp at zbf1); (first | replace zbf1 := zbf1 hs5 | skip); have zdc0 := fun hq => (hb.cell (p := ⟨w5.heap.size, 0, none⟩) hq); (try simp at zdc0); have zdf0 := fun hq => (hb.frozen (p := ⟨w5.heap.size, 0, none⟩) hq); (try simp at zdf0); have zdc1 := fun hq => (hb.cell (p := ⟨w5.heap.size, 1, none⟩) hq); (try simp at zdc1); have zdf1 := fun hq => (hb.frozen (p := ⟨w5.heap.size, 1, none⟩) hq); (try simp at zdf1)) | (go_at_call 33; refine ((hxy _).out).mono ?_; rintro e w7 ⟨rfl, hb⟩; have hs7 := hb.size; (try simp at hs7); have zec0 := fun hq => (hb.cell (p := ⟨Wb.heap.size, 0, none⟩) hq); (try simp at zec0); (first | replace zec0 := zec0 (Nat.lt_of_lt_of_le hs5 hs6) | skip); have zef0 := fun hq => (hb.frozen (p := ⟨Wb.heap.size, 0, none⟩) hq); (try simp at zef0); (first | replace zef0 := zef0 (Nat.lt_of_lt_of_le hs5 hs6) | skip); have zec1 := fun hq => (hb.cell (p := ⟨Wb.heap.size, 1, none⟩) hq); (try simp at zec1); (first | replace zec1 := zec1 (Nat.lt_of_lt_of_le hs5 hs6) | skip); have zef1 := fun hq => (hb.frozen (p := ⟨Wb.heap.size, 1, none⟩) hq); (try simp at zef1); (first | replace zef1 := zef1 (Nat.lt_of_lt_of_le hs5 hs6) | skip); have zfc0 := fun hq => (hb.cell (p := ⟨w5.heap.size, 0, none⟩) hq); (try simp at zfc0); (first | replace zfc0 := zfc0 hs6 | skip); have zff0 := fun hq => (hb.frozen (p := ⟨w5.heap.size, 0, none⟩) hq); (try simp at zff0); (first | replace zff0 := zff0 hs6 | skip); have zfc1 := fun hq => (hb.cell (p := ⟨w5.heap.size, 1, none⟩) hq); (try simp at zfc1); (first | replace zfc1 := zfc1 hs6 | skip); have zff1 := fun hq => (hb.frozen (p := ⟨w5.heap.size, 1, none⟩) hq); (try simp at zff1); (first | replace zff1 := zff1 hs6 | skip); have zgc0 := fun hq => (hb.cell (p := ⟨w6.heap.size, 0, none⟩) hq); (try simp at zgc0); have zgf0 := fun hq => (hb.frozen (p := ⟨w6.heap.size, 0, none⟩) hq); (try simp at zgf0); have zgc1 := fun hq => (hb.cell (p := ⟨w6.heap.size, 1, none⟩) hq); (try simp at zgc1); have zgf1 := fun hq => (hb.frozen (p := ⟨w6.heap.size, 1, none⟩) hq); (try simp at zgf1)))
            all_goals
              have hbW := heldB (by assumption)
              go_wp2_with fail
              go_meet
              exact ⟨_, rfl, rfl, by go_simp, by go_simp, hbW⟩
          case rest =>
          obtain ⟨blk2, rfl, rfl, hd0, hd1, hbx⟩ := hcut
          obtain ⟨W16, rfl⟩ : ∃ W16 : World, W16 = wc := ⟨_, rfl⟩
          have E := EB.out.next hbx
          have hI6 := E.cell (a := ⟨wr.heap.size, 6, none⟩) (v := .int .i64 m) (by simp)
          have HD0 := Lib.hid hd0
          have HD1 := Lib.hid hd1
          have HJ6 := Lib.hid hI6
          have hbl := World.block_lt_of_cell? W16 _ hd0
          have hwl2 : wr.heap.size < W16.heap.size := Nat.lt_of_lt_of_le hwlt hbx.size
          have EC := Lib.hid E
          clear E hI6 hd0 hd1 hbx
          go_upto_region 16 with fail
          go_region_held3 (fun w' => Below W16.heap.size W16 w' ∧ w'.cell? ⟨wr.heap.size, 6, none⟩ = some (.int .i64 m) ∧ w'.cell? ⟨blk2, 0, none⟩ = some (.int .i64 GH) ∧ w'.cell? ⟨blk2, 1, none⟩ = some (.int .u64 GL)) (first | assumption | exact (fun (hq : Below W16.heap.size W16 _) => And.intro hq (And.intro (cellOf hq HJ6.out hwl2) (And.intro (cellOf hq HD0.out hbl) (cellOf hq HD1.out hbl)))) (Below.drew (Below.refl _ _)) | exact (fun (hq : Below W16.heap.size W16 _) => And.intro hq (And.intro (cellOf hq HJ6.out hwl2) (And.intro (cellOf hq HD0.out hbl) (cellOf hq HD1.out hbl)))) (heldTrans (by assumption) (by assumption)))
            (first | (go_at_call 20; refine (num1_any _ _).mono ?_; rintro e w' ⟨rfl, rfl⟩) | (go_at_call 36; refine ((hms2 _).out).mono ?_; rintro e w8 ⟨rfl, hb⟩))
          all_goals
            have hbC := heldB (by assumption)
            have E := EC.out.next hbC
            clear hbC
            go_wp2_with fail
            refine ⟨⟨k + 1, by omega, by go_num, HB.out.trans (E.bel.mono hsz)⟩, ?_⟩
            simp [intOf]; omega
      · have ha1 := fun w => Lib.hid (add_out ah al bh bl w hA hB hin)
        have ha2 := fun w => Lib.hid (add_out bh bl ah al w hB hA (by rw [Int.add_comm]; exact hin))
        clear hin
        go_upto_region 15 with (first | (go_at_call 33; have hmk := M1; clear hmk M1; go_loud (refine ((ha1 _).out).mono ?_; rintro e w1 ⟨rfl, hb⟩; replace E := (((E.next hb).alloc (.cells #[.int .i64 0, .int .u64 0] 25)).addC (a := ⟨w1.heap.size, 0, none⟩) (v := .int .i64 0) (by simp [go_sem])).addC (a := ⟨w1.heap.size, 1, none⟩) (v := .int .u64 0) (by simp [go_sem]); clear hb; have p0 := E.cell (a := ⟨wr.heap.size, 0, none⟩) (v := .int .i64 ah) (by simp); have p1 := E.cell (a := ⟨wr.heap.size, 1, none⟩) (v := .int .u64 al) (by simp); have p2 := E.cell (a := ⟨wr.heap.size, 2, none⟩) (v := .int .i64 bh) (by simp); have p3 := E.cell (a := ⟨wr.heap.size, 3, none⟩) (v := .int .u64 bl) (by simp); have p4 := E.cell (a := ⟨wr.heap.size, 4, none⟩) (v := .int .i64 x) (by simp); have p5 := E.cell (a := ⟨wr.heap.size, 5, none⟩) (v := .int .i64 y) (by simp); have p6 := E.cell (a := ⟨wr.heap.size, 6, none⟩) (v := .int .i64 m) (by simp))) | (go_at_call 33; have hmk := M2; clear hmk M2; go_loud (refine ((ha2 _).out).mono ?_; rintro e w2 ⟨rfl, hb⟩; replace E := (((E.next hb).alloc (.cells #[.int .i64 0, .int .u64 0] 25)).addC (a := ⟨w2.heap.size, 0, none⟩) (v := .int .i64 0) (by simp [go_sem])).addC (a := ⟨w2.heap.size, 1, none⟩) (v := .int .u64 0) (by simp [go_sem]); clear hb; have p0 := E.cell (a := ⟨wr.heap.size, 0, none⟩) (v := .int .i64 ah) (by simp); have p1 := E.cell (a := ⟨wr.heap.size, 1, none⟩) (v := .int .u64 al) (by simp); have p2 := E.cell (a := ⟨wr.heap.size, 2, none⟩) (v := .int .i64 bh) (by simp); have p3 := E.cell (a := ⟨wr.heap.size, 3, none⟩) (v := .int .u64 bl) (by simp); have p4 := E.cell (a := ⟨wr.heap.size, 4, none⟩) (v := .int .i64 x) (by simp); have p5 := E.cell (a := ⟨wr.heap.size, 5, none⟩) (v := .int .i64 y) (by simp); have p6 := E.cell (a := ⟨wr.heap.size, 6, none⟩) (v := .int .i64 m) (by simp); have q0 := E.cell (a := ⟨w1.heap.size, 0, none⟩) (v := .int .i64 0) (by simp); have q1 := E.cell (a := ⟨w1.heap.size, 1, none⟩) (v := .int .u64 0) (by simp))) | (go_at_call 20; refine (num1_any _ _).mono ?_; rintro e w' ⟨rfl, rfl⟩))
        obtain ⟨Wb, hWb⟩ : ∃ Wb : World, Wb = w2.alloc (.cells #[.int .i64 0, .int .u64 0] 25) := ⟨_, rfl⟩
        rw [← hWb] at E ⊢
        clear hWb
        have hI6 := E.cell (a := ⟨wr.heap.size, 6, none⟩) (v := .int .i64 m) (by simp)
        have hwlt : wr.heap.size < Wb.heap.size := (E.cells (⟨wr.heap.size, 5, none⟩, .int .i64 y) (by simp)).2
        have HI6 := Lib.hid hI6
        have EB := Lib.hid E
        clear E hI6 p0 p1 p2 p3 p4 p5 p6
        go_cut [13, 14] from 91 to 114 (fun s13 s14 wx => ∃ (blk : Nat), s13 = .pointer (some ⟨blk, 0, none⟩) ∧ s14 = .int .i64 0 ∧ wx.cell? ⟨blk, 0, none⟩ = some (.int .i64 GH) ∧ wx.cell? ⟨blk, 1, none⟩ = some (.int .u64 GL) ∧ Below Wb.heap.size Wb wx)
        case first =>
          go_region_held3 (fun w' => Below Wb.heap.size Wb w' ∧ w'.cell? ⟨wr.heap.size, 6, none⟩ = some (.int .i64 m)) (first | assumption | exact (fun (hq : Below Wb.heap.size Wb _) => And.intro hq (cellOf hq HI6.out hwlt)) (Below.drew (Below.refl _ _)) | exact (fun (hq : Below Wb.heap.size Wb _) => And.intro hq (cellOf hq HI6.out hwlt)) (heldTrans (by assumption) (by assumption)) | exact (fun (hq : Below Wb.heap.size Wb _) => And.intro hq (cellOf hq HI6.out hwlt)) (heldAlloc (by assumption) _) | exact (fun (hq : Below Wb.heap.size Wb _) => And.intro hq (cellOf hq HI6.out hwlt)) (heldSet (heldSet2 (by assumption) (by first | omega | (simp <;> omega)) _) (by first | omega | (simp <;> omega)) _) | exact (fun (hq : Below Wb.heap.size Wb _) => And.intro hq (cellOf hq HI6.out hwlt)) (heldSet (by assumption) (by first | omega | (simp <;> omega)) _) | exact (fun (hq : Below Wb.heap.size Wb _) => And.intro hq (cellOf hq HI6.out hwlt)) (heldRe (by assumption) (by first | omega | (simp <;> omega)) _))
            (first | (go_at_call 36; have hmk := M3; clear hmk M3; refine ((hmx _).out).mono ?_; rintro e w5 ⟨rfl, hb⟩; have hs5 := hb.size; (try simp at hs5); have zac0 := fun hq => (hb.cell (p := ⟨Wb.heap.size, 0, none⟩) hq); (try simp at zac0); have zaf0 := fun hq => (hb.frozen (p := ⟨Wb.heap.size, 0, none⟩) hq); (try simp at zaf0); have zac1 := fun hq => (hb.cell (p := ⟨Wb.heap.size, 1, none⟩) hq); (try simp at zac1); have zaf1 := fun hq => (hb.frozen (p := ⟨Wb.heap.size, 1, none⟩) hq); (try simp at zaf1)) | (go_at_call 36; have hmk := M4; clear hmk M4; refine ((hmy _).out).mono ?_; rintro e w6 ⟨rfl, hb⟩; have hs6 := hb.size; (try simp at hs6); have zbc0 := fun hq => (hb.cell (p := ⟨Wb.heap.size, 0, none⟩) hq); (try simp at zbc0); (first | replace zbc0 := zbc0 hs5 | skip); have zbf0 := fun hq => (hb.frozen (p := ⟨Wb.heap.size, 0, none⟩) hq); (try simp at zbf0); (first | replace zbf0 := zbf0 hs5 | skip); have zbc1 := fun hq => (hb.cell (p := ⟨Wb.heap.size, 1, none⟩) hq); (try simp at zbc1); (first | replace zbc1 := zbc1 hs5 | skip); have zbf1 := fun hq => (hb.frozen (p := ⟨Wb.heap.size, 1, none⟩) hq); (try simp at zbf1); (first | replace zbf1 := zbf1 hs5 | skip); have zdc0 := fun hq => (hb.cell (p := ⟨w5.heap.size, 0, none⟩) hq); (try simp at zdc0); have zdf0 := fun hq => (hb.frozen (p := ⟨w5.heap.size, 0, none⟩) hq); (try simp at zdf0); have zdc1 := fun hq => (hb.cell (p := ⟨w5.heap.size, 1, none⟩) hq); (try simp at zdc1); have zdf1 := fun hq => (hb.frozen (p := ⟨w5.heap.size, 1, none⟩) hq); (try simp at zdf1)) | (go_at_call 33; refine ((hxy _).out).mono ?_; rintro e w7 ⟨rfl, hb⟩; have hs7 := hb.size; (try simp at hs7); have zec0 := fun hq => (hb.cell (p := ⟨Wb.heap.size, 0, none⟩) hq); (try simp at zec0); (first | replace zec0 := zec0 (Nat.lt_of_lt_of_le hs5 hs6) | skip); have zef0 := fun hq => (hb.frozen (p := ⟨Wb.heap.size, 0, none⟩) hq); (try simp at zef0); (first | replace zef0 := zef0 (Nat.lt_of_lt_of_le hs5 hs6) | skip); have zec1 := fun hq => (hb.cell (p := ⟨Wb.heap.size, 1, none⟩) hq); (try simp at zec1); (first | replace zec1 := zec1 (Nat.lt_of_lt_of_le hs5 hs6) | skip); have zef1 := fun hq => (hb.frozen (p := ⟨Wb.heap.size, 1, none⟩) hq); (try simp at zef1); (first | replace zef1 := zef1 (Nat.lt_of_lt_of_le hs5 hs6) | skip); have zfc0 := fun hq => (hb.cell (p := ⟨w5.heap.size, 0, none⟩) hq); (try simp at zfc0); (first | replace zfc0 := zfc0 hs6 | skip); have zff0 := fun hq => (hb.frozen (p := ⟨w5.heap.size, 0, none⟩) hq); (try simp at zff0); (first | replace zff0 := zff0 hs6 | skip); have zfc1 := fun hq => (hb.cell (p := ⟨w5.heap.size, 1, none⟩) hq); (try simp at zfc1); (first | replace zfc1 := zfc1 hs6 | skip); have zff1 := fun hq => (hb.frozen (p := ⟨w5.heap.size, 1, none⟩) hq); (try simp at zff1); (first | replace zff1 := zff1 hs6 | skip); have zgc0 := fun hq => (hb.cell (p := ⟨w6.heap.size, 0, none⟩) hq); (try simp at zgc0); have zgf0 := fun hq => (hb.frozen (p := ⟨w6.heap.size, 0, none⟩) hq); (try simp at zgf0); have zgc1 := fun hq => (hb.cell (p := ⟨w6.heap.size, 1, none⟩) hq); (try simp at zgc1); have zgf1 := fun hq => (hb.frozen (p := ⟨w6.heap.size, 1, none⟩) hq); (try simp at zgf1)))
          all_goals
            have hbW := heldB (by assumption)
            go_wp2_with fail
            go_meet
            exact ⟨_, rfl, rfl, by go_simp, by go_simp, hbW⟩
        case rest =>
        obtain ⟨blk2, rfl, rfl, hd0, hd1, hbx⟩ := hcut
        obtain ⟨W16, rfl⟩ : ∃ W16 : World, W16 = wc := ⟨_, rfl⟩
        have E := EB.out.next hbx
        have hI6 := E.cell (a := ⟨wr.heap.size, 6, none⟩) (v := .int .i64 m) (by simp)
        have HD0 := Lib.hid hd0
        have HD1 := Lib.hid hd1
        have HJ6 := Lib.hid hI6
        have hbl := World.block_lt_of_cell? W16 _ hd0
        have hwl2 : wr.heap.size < W16.heap.size := Nat.lt_of_lt_of_le hwlt hbx.size
        have EC := Lib.hid E
        clear E hI6 hd0 hd1 hbx
        go_upto_region 16 with fail
        go_region_held3 (fun w' => Below W16.heap.size W16 w' ∧ w'.cell? ⟨wr.heap.size, 6, none⟩ = some (.int .i64 m) ∧ w'.cell? ⟨blk2, 0, none⟩ = some (.int .i64 GH) ∧ w'.cell? ⟨blk2, 1, none⟩ = some (.int .u64 GL)) (first | assumption | exact (fun (hq : Below W16.heap.size W16 _) => And.intro hq (And.intro (cellOf hq HJ6.out hwl2) (And.intro (cellOf hq HD0.out hbl) (cellOf hq HD1.out hbl)))) (Below.drew (Below.refl _ _)) | exact (fun (hq : Below W16.heap.size W16 _) => And.intro hq (And.intro (cellOf hq HJ6.out hwl2) (And.intro (cellOf hq HD0.out hbl) (cellOf hq HD1.out hbl)))) (heldTrans (by assumption) (by assumption)))
          (first | (go_at_call 20; refine (num1_any _ _).mono ?_; rintro e w' ⟨rfl, rfl⟩) | (go_at_call 36; refine ((hms2 _).out).mono ?_; rintro e w8 ⟨rfl, hb⟩))
        all_goals
          have hbC := heldB (by assumption)
          have E := EC.out.next hbC
          clear hbC
          go_wp2_with fail
          refine ⟨⟨k + 1, by omega, by go_num, HB.out.trans (E.bel.mono hsz)⟩, ?_⟩
          simp [intOf]; omega
    · have HB := Lib.hid hbel
      clear hbel h
      by_cases hlt : k < n
      · have hk15 : ¬ (k : Int) < 30 := by omega
        have hkn : (k : Int) < n := by omega
        go_wp2_with (first | (go_at_call 17; refine (wakes1_any _).mono ?_; rintro e w1 ⟨rfl, hb⟩; have HW1 := Lib.hid hb; clear hb))
        go_ret
        exact ⟨rfl, HB.out.trans (HW1.out.mono HB.out.size)⟩
      · have hkn : ¬ (k : Int) < n := by omega
        go_wp2_with (first | (go_at_call 17; refine (wakes1_any _).mono ?_; rintro e w1 ⟨rfl, hb⟩; have HW1 := Lib.hid hb; clear hb))
        go_ret
        exact ⟨rfl, HB.out.trans (HW1.out.mono HB.out.size)⟩
end Go.Proofs.Ytlbmpdidmckgkaa
