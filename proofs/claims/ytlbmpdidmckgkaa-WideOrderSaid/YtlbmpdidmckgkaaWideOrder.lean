/- The law WideOrder, walked. -/
import Derived.Test.YtlbmpdidmckgkaaWide7
import Derived.Test.YtlbmpdidmckgkaaEnv
import Derived.Deep.RegionHeld3
import Derived.Deep.Cut
import Derived.Deep.CutRange
set_option linter.unusedVariables false
set_option linter.unusedSimpArgs false
namespace Go.Proofs.Ytlbmpdidmckgkaa
open Go.RowKit Go.Rt

theorem cmpI_swap (a b : Int) : cmpI b a = -cmpI a b := by unfold cmpI; (repeat' split) <;> omega
theorem cmpI_bounds (a b : Int) : -1 ≤ cmpI a b ∧ cmpI a b ≤ 1 := by unfold cmpI; (repeat' split) <;> omega
theorem cmpI_zero {a b : Int} : cmpI a b = 0 ↔ a = b := by unfold cmpI; constructor <;> intro h <;> (repeat' split at h) <;> (try split) <;> omega
theorem cmpI_sub (a b : Int) : cmpI (a - b) 0 = cmpI a b := by unfold cmpI; (repeat' split) <;> omega
theorem cmpI_succ (a : Int) : cmpI (a + 1) a = 1 := by unfold cmpI; (repeat' split) <;> omega
theorem V_split (s : Int) : V (s / 18446744073709551616) (s % 18446744073709551616) = s := by unfold V; omega
theorem V_from (x : Int) (h0 : -9223372036854775808 ≤ x) (h1 : x ≤ 9223372036854775807) : V (x / 9223372036854775808) (x % 18446744073709551616) = x := by unfold V; omega
theorem WR_from (x : Int) (h0 : -9223372036854775808 ≤ x) (h1 : x ≤ 9223372036854775807) : WR (x / 9223372036854775808) (x % 18446744073709551616) := ⟨by omega, by omega, by omega, by omega⟩
theorem WR_split {s : Int} (h : inR s) : WR (s / 18446744073709551616) (s % 18446744073709551616) := by unfold inR at h; exact ⟨by omega, by omega, by omega, by omega⟩
theorem cellOf {B : Nat} {Wb w' : World} {a : Addr} {v : Value} (h : Below B Wb w') (hc : Wb.cell? a = some v) (hlt : a.block < B) : w'.cell? a = some v := (h.cell (p := a) hlt).trans hc
theorem heldTrans {Wb w w' : World} {p : Prop} (h : Below Wb.heap.size Wb w ∧ p) (hb : Below w.heap.size w w') : Below Wb.heap.size Wb w' := h.1.trans (hb.mono h.1.size)
theorem heldAlloc {Wb w : World} {p : Prop} (h : Below Wb.heap.size Wb w ∧ p) (o : Obj) : Below Wb.heap.size Wb (w.alloc o) := h.1.alloc h.1.size _
theorem heldSet {Wb w : World} {p : Prop} {ad : Addr} (h : Below Wb.heap.size Wb w ∧ p) (hle : Wb.heap.size ≤ ad.block) (v : Value) : Below Wb.heap.size Wb (w.setCell ad v) := h.1.setCell hle _
theorem heldSet2 {Wb w : World} {p : Prop} {ad : Addr} (h : Below Wb.heap.size Wb w ∧ p) (hle : Wb.heap.size ≤ ad.block) (v : Value) : Below Wb.heap.size Wb (w.setCell ad v) ∧ True := ⟨h.1.setCell hle _, trivial⟩
theorem heldRe {Wb w : World} {p : Prop} {o : Obj} (h : Below Wb.heap.size Wb (w.alloc o) ∧ p) (hle : Wb.heap.size ≤ w.heap.size) (o' : Obj) : Below Wb.heap.size Wb (w.alloc o') := by
  have k1 : Below w.heap.size w (w.alloc o) := (Below.refl _ _).alloc (Nat.le_refl _) _
  have k2 : Below w.heap.size w (w.alloc o') := (Below.refl _ _).alloc (Nat.le_refl _) _
  exact ⟨k2.os.trans (k1.os.symm.trans h.1.os), k2.tape.trans (k1.tape.symm.trans h.1.tape), k2.output.trans (k1.output.symm.trans h.1.output), Nat.le_trans hle k2.size,
    fun i hi => (k2.block i (Nat.lt_of_lt_of_le hi hle)).trans ((k1.block i (Nat.lt_of_lt_of_le hi hle)).symm.trans (h.1.block i hi))⟩
theorem zz {n : Nat} {W w' : World} (hb : Below n W w') (b : Nat) (hlt : b < n) : w'.cell? ⟨b, 0, none⟩ = W.cell? ⟨b, 0, none⟩ ∧ w'.cell? ⟨b, 1, none⟩ = W.cell? ⟨b, 1, none⟩ ∧ w'.frozen? ⟨b, 0, none⟩ = W.frozen? ⟨b, 0, none⟩ ∧ w'.frozen? ⟨b, 1, none⟩ = W.frozen? ⟨b, 1, none⟩ :=
  ⟨hb.cell (p := ⟨b, 0, none⟩) hlt, hb.cell (p := ⟨b, 1, none⟩) hlt, hb.frozen (p := ⟨b, 0, none⟩) hlt, hb.frozen (p := ⟨b, 1, none⟩) hlt⟩
theorem heldB {Wb w : World} {p : Prop} (h : Below Wb.heap.size Wb w ∧ p) : Below Wb.heap.size Wb w := h.1

set_option maxHeartbeats 3000000 in
set_option maxRecDepth 100000 in
theorem wideOrder_any (a : Option Addr) (n c : Nat) (w : World) (h : PairsAt w w.heap.size a n) :
    Calls Try.prog 7 #[.slice a n c] w fun e w' => e = .returned (.bool true) ∧ Below w.heap.size w w' := by
  have hm := h.len
  go_enter Try.func7, Try.ntmps7
  go_wp2_with fail
  go_loopw [3] (fun i wr => ∃ k : Nat, k ≤ n ∧ i = .int .i64 k ∧ Below w.heap.size w wr) (fun i _ => n - (intOf i).toNat)
  case atStart => exact ⟨0, Nat.zero_le _, rfl, Below.refl _ _⟩
  case round =>
    obtain ⟨k, hk, rfl, hbel⟩ := hrel
    by_cases hend : k < n ∧ k < 30
    · obtain ⟨hlt, h20⟩ := hend
      obtain ⟨b, off, ah, al, bh, bl, x, y, m, rfl, ht⟩ := h.at_ k hlt
      replace ht := ht.below hbel
      have hsz := hbel.size
      obtain ⟨hlb, c0, c1, c2, c3, c4, c5, c6, hA, hB, x0, x1, y0, y1, m0, m1⟩ := ht
      have HB := Lib.hid hbel
      clear hbel h
      have E : Env .u64 23 wr.heap.size wr (wr.alloc (.cells #[.int .i64 ah, .int .u64 al, .int .i64 bh, .int .u64 bl, .int .i64 x, .int .i64 y, .int .i64 m] 27)) [] [] [(⟨wr.heap.size, 6, none⟩, .int .i64 m), (⟨wr.heap.size, 5, none⟩, .int .i64 y), (⟨wr.heap.size, 4, none⟩, .int .i64 x), (⟨wr.heap.size, 3, none⟩, .int .u64 bl), (⟨wr.heap.size, 2, none⟩, .int .i64 bh), (⟨wr.heap.size, 1, none⟩, .int .u64 al), (⟨wr.heap.size, 0, none⟩, .int .i64 ah)] :=
        (((((((((Env.start .u64 23 wr)).alloc _).addC (by simp [go_sem])).addC (by simp [go_sem])).addC (by simp [go_sem])).addC (by simp [go_sem])).addC (by simp [go_sem])).addC (by simp [go_sem])).addC (by simp [go_sem])
      have hF1 : ∀ w, Hid (Calls Try.prog 34 #[.int .i64 1] w (RetW w 0 1)) := fun w => Lib.hid (ref1From_any 1 w (by decide) (by decide))
      have hab := fun w => Lib.hid (cmp_any ah al bh bl w hA hB)
      have hba := fun w => Lib.hid (cmp_any bh bl ah al w hB hA)
      have hcb := cmpI_bounds (V ah al) (V bh bl)
      rw [cmpI_swap (V ah al) (V bh bl)] at hba
      have hC3 := cmpI_sub (V ah al) (V bh bl)
      have hCz : cmpI (V ah al) (V bh bl) = 0 ↔ V ah al = V bh bl := cmpI_zero
      obtain ⟨C, hC⟩ : ∃ q, cmpI (V ah al) (V bh bl) = q := ⟨_, rfl⟩
      rw [hC] at hab hba hcb hC3 hCz
      obtain ⟨hC0, hC1⟩ := hcb
      have hw : RowKit.wrap64 (- -C) = C := by unfold RowKit.wrap64; omega
      have hw2 : RowKit.wrap64 C = C := by unfold RowKit.wrap64; omega
      have hfx := fun w => Lib.hid (from_any x w x0 x1)
      have hfy := fun w => Lib.hid (from_any y w y0 y1)
      have hsm := fun w => Lib.hid (small_any (x / 9223372036854775808) (x % 18446744073709551616) w (WR_from x x0 x1))
      rw [V_from x x0 x1, if_pos (And.intro x0 x1), decide_eq_true (And.intro x0 x1)] at hsm
      have hxy := fun w => Lib.hid (cmp_any (x / 9223372036854775808) (x % 18446744073709551616) (y / 9223372036854775808) (y % 18446744073709551616) w (WR_from x x0 x1) (WR_from y y0 y1))
      rw [V_from x x0 x1, V_from y y0 y1] at hxy
      have hsg := fun w => Lib.hid (sgn_any x y w)
      obtain ⟨K, hK⟩ : ∃ q, cmpI x y = q := ⟨_, rfl⟩
      rw [hK] at hxy hsg
      obtain ⟨FH, hFH⟩ : ∃ q, x / 9223372036854775808 = q := ⟨_, rfl⟩
      obtain ⟨FL, hFL⟩ : ∃ q, x % 18446744073709551616 = q := ⟨_, rfl⟩
      obtain ⟨GH, hGH⟩ : ∃ q, y / 9223372036854775808 = q := ⟨_, rfl⟩
      obtain ⟨GL, hGL⟩ : ∃ q, y % 18446744073709551616 = q := ⟨_, rfl⟩
      rw [hFH, hFL] at hfx hsm hxy
      rw [hGH, hGL] at hfy hxy
      clear hFH hFL hGH hGL hK
      have M1 := True.intro
      have M2 := True.intro
      have M3 := True.intro
      have M4 := True.intro
      have M5 := True.intro
      have M6 := True.intro
      go_upto_region 6 with (first | (go_at_call 31; have hmk := M1; clear hmk M1; go_loud (refine ((hab _).out).mono ?_; rintro e w1 ⟨rfl, hb⟩; replace E := E.next hb; clear hb; have p0 := E.cell (a := ⟨wr.heap.size, 0, none⟩) (v := .int .i64 ah) (by simp); have p1 := E.cell (a := ⟨wr.heap.size, 1, none⟩) (v := .int .u64 al) (by simp); have p2 := E.cell (a := ⟨wr.heap.size, 2, none⟩) (v := .int .i64 bh) (by simp); have p3 := E.cell (a := ⟨wr.heap.size, 3, none⟩) (v := .int .u64 bl) (by simp); have p4 := E.cell (a := ⟨wr.heap.size, 4, none⟩) (v := .int .i64 x) (by simp); have p5 := E.cell (a := ⟨wr.heap.size, 5, none⟩) (v := .int .i64 y) (by simp); have p6 := E.cell (a := ⟨wr.heap.size, 6, none⟩) (v := .int .i64 m) (by simp))))
      have hlt1 : wr.heap.size < w1.heap.size := (E.cells (⟨wr.heap.size, 0, none⟩, .int .i64 ah) (by simp)).2
      go_cut [48] from 31 to 112 (fun s48 wx => s48 = .bool false ∧ Below w1.heap.size w1 wx)
      case first =>
        clear E
        by_cases hah : ah = bh
        · by_cases hal : al = bl
          · have hC0' : C = 0 := hCz.2 (by rw [hah, hal])
            clear hCz hC hC3 hw hw2 hab hA hB
            subst hC0' hah hal
            go_wp2_with (first | (go_at_call 31; have hmk := M2; clear hmk M2; go_loud (refine ((hba _).out).mono ?_; rintro e w2 ⟨rfl, hb⟩; have HB2 := Lib.hid hb; have p0 := (hb.cell (p := ⟨wr.heap.size, 0, none⟩) (by omega)).trans p0; have p1 := (hb.cell (p := ⟨wr.heap.size, 1, none⟩) (by omega)).trans p1; have p2 := (hb.cell (p := ⟨wr.heap.size, 2, none⟩) (by omega)).trans p2; have p3 := (hb.cell (p := ⟨wr.heap.size, 3, none⟩) (by omega)).trans p3)))
            go_meet
            exact ⟨rfl, HB2.out⟩
          · have hCn : ¬ C = 0 := by
              intro e
              have := hCz.1 e
              unfold V at this
              omega
            have hCb : (C == 0) = false := by simp; exact hCn
            have hal2 : (al == bl) = false := by simp; exact hal
            clear hCz hC hC3
            subst hah
            go_wp2_with (first | (go_at_call 31; have hmk := M2; clear hmk M2; go_loud (refine ((hba _).out).mono ?_; rintro e w2 ⟨rfl, hb⟩; have HB2 := Lib.hid hb; have p0 := (hb.cell (p := ⟨wr.heap.size, 0, none⟩) (by omega)).trans p0; have p1 := (hb.cell (p := ⟨wr.heap.size, 1, none⟩) (by omega)).trans p1; have p2 := (hb.cell (p := ⟨wr.heap.size, 2, none⟩) (by omega)).trans p2; have p3 := (hb.cell (p := ⟨wr.heap.size, 3, none⟩) (by omega)).trans p3)))
            go_meet
            exact ⟨rfl, HB2.out⟩
        · have hab0 : (ah == bh) = false := by simp; exact hah
          have hCn : ¬ C = 0 := by
            intro e
            have := hCz.1 e
            obtain ⟨_, _, _, _⟩ := hA
            obtain ⟨_, _, _, _⟩ := hB
            unfold V at this
            omega
          have hCb : (C == 0) = false := by simp; exact hCn
          clear hCz hC hC3
          go_wp2_with (first | (go_at_call 31; have hmk := M2; clear hmk M2; go_loud (refine ((hba _).out).mono ?_; rintro e w2 ⟨rfl, hb⟩; have HB2 := Lib.hid hb; have p0 := (hb.cell (p := ⟨wr.heap.size, 0, none⟩) (by omega)).trans p0; have p1 := (hb.cell (p := ⟨wr.heap.size, 1, none⟩) (by omega)).trans p1; have p2 := (hb.cell (p := ⟨wr.heap.size, 2, none⟩) (by omega)).trans p2; have p3 := (hb.cell (p := ⟨wr.heap.size, 3, none⟩) (by omega)).trans p3)))
          go_meet
          exact ⟨rfl, HB2.out⟩
      case rest =>
        obtain ⟨rfl, hbx⟩ := hcut
        obtain ⟨W6, rfl⟩ : ∃ W6 : World, W6 = wc := ⟨_, rfl⟩
        replace E := E.next hbx
        clear hbx hlt1 hw hab hba p0 p1 p2 p3 p4 p5 p6
        have p0 := E.cell (a := ⟨wr.heap.size, 0, none⟩) (v := .int .i64 ah) (by simp)
        have p1 := E.cell (a := ⟨wr.heap.size, 1, none⟩) (v := .int .u64 al) (by simp)
        have p2 := E.cell (a := ⟨wr.heap.size, 2, none⟩) (v := .int .i64 bh) (by simp)
        have p3 := E.cell (a := ⟨wr.heap.size, 3, none⟩) (v := .int .u64 bl) (by simp)
        have p4 := E.cell (a := ⟨wr.heap.size, 4, none⟩) (v := .int .i64 x) (by simp)
        have p5 := E.cell (a := ⟨wr.heap.size, 5, none⟩) (v := .int .i64 y) (by simp)
        have p6 := E.cell (a := ⟨wr.heap.size, 6, none⟩) (v := .int .i64 m) (by simp)
        go_upto_region 8 with fail
        go_cut [6, 7] from 49 to 112 (fun s6 s7 wx => ∃ (blk : Nat) (DH DL DE : Int), s6 = .pointer (some ⟨blk, 0, none⟩) ∧ s7 = .int .i64 DE ∧ wx.cell? ⟨blk, 0, none⟩ = some (.int .i64 DH) ∧ wx.cell? ⟨blk, 1, none⟩ = some (.int .u64 DL) ∧ ((DE = 0 ∧ WR DH DL ∧ V DH DL = V ah al - V bh bl) ∨ DE = 3) ∧ Below W6.heap.size W6 wx)
        case first =>
          by_cases hin : inR (V ah al - V bh bl)
          · have hsub := fun w => Lib.hid (sub_in ah al bh bl w hA hB hin)
            go_wp2_with (first | (go_at_call 28; go_loud (refine ((hsub _).out).mono ?_; rintro e w3 ⟨rfl, hb⟩; have HB3 := Lib.hid hb; clear hb)))
            go_meet
            exact ⟨_, _, _, _, rfl, rfl, by go_simp, by go_simp, .inl ⟨rfl, WR_split hin, V_split _⟩, HB3.out.alloc HB3.out.size _⟩
          · have hsub := fun w => Lib.hid (sub_out ah al bh bl w hA hB hin)
            go_wp2_with (first | (go_at_call 28; go_loud (refine ((hsub _).out).mono ?_; rintro e w3 ⟨rfl, hb⟩; have HB3 := Lib.hid hb; clear hb)))
            go_meet
            exact ⟨_, 0, 0, _, rfl, rfl, by go_simp, by go_simp, .inr rfl, HB3.out.alloc HB3.out.size _⟩
        case rest =>
        obtain ⟨blk, DH, DL, DE, rfl, rfl, hd0, hd1, hDE, hbx⟩ := hcut
        obtain ⟨W8, rfl⟩ : ∃ W8 : World, W8 = wc := ⟨_, rfl⟩
        replace E := E.next hbx
        clear hbx p0 p1 p2 p3 p4 p5 p6
        go_upto_region 9 with fail
        go_cut [65] from 57 to 112 (fun s65 wx => s65 = .bool false ∧ Below W8.heap.size W8 wx)
        case first =>
          rcases hDE with ⟨rfl, hWR, hVD⟩ | rfl
          · have hsgn := fun w => Lib.hid (sign_any DH DL w hWR)
            rw [hVD, hC3] at hsgn
            go_wp2_with (first | (go_at_call 20; refine (num1_any _ _).mono ?_; rintro e w' ⟨rfl, rfl⟩) | (go_at_call 32; go_loud (refine ((hsgn _).out).mono ?_; rintro e w4 ⟨rfl, hb⟩; have HB4 := Lib.hid hb; clear hb)))
            go_meet
            exact ⟨rfl, HB4.out⟩
          · go_wp2_with (first | (go_at_call 20; refine (num1_any _ _).mono ?_; rintro e w' ⟨rfl, rfl⟩))
            go_meet
            exact ⟨rfl, Below.refl _ _⟩
        case rest =>
        obtain ⟨rfl, hbx⟩ := hcut
        obtain ⟨Wb, rfl⟩ : ∃ Wb : World, Wb = wc := ⟨_, rfl⟩
        replace E := E.next hbx
        clear hbx hd0 hd1 hDE
        go_upto_region 11 with fail
        have hI0 := E.cell (a := ⟨wr.heap.size, 0, none⟩) (v := .int .i64 ah) (by simp)
        have hI1 := E.cell (a := ⟨wr.heap.size, 1, none⟩) (v := .int .u64 al) (by simp)
        have hwlt : wr.heap.size < Wb.heap.size := (E.cells (⟨wr.heap.size, 5, none⟩, .int .i64 y) (by simp)).2
        have HI0 := Lib.hid hI0
        have HI1 := Lib.hid hI1
        have EB := Lib.hid E
        clear E hI0 hI1
        go_cut [8, 9] from 66 to 112 (fun s8 s9 wx => ∃ (blk : Nat) (SH SL SE : Int), s8 = .pointer (some ⟨blk, 0, none⟩) ∧ s9 = .int .i64 SE ∧ wx.cell? ⟨blk, 0, none⟩ = some (.int .i64 SH) ∧ wx.cell? ⟨blk, 1, none⟩ = some (.int .u64 SL) ∧ ((SE = 0 ∧ WR SH SL ∧ V SH SL = V ah al + 1) ∨ SE = 3) ∧ Below Wb.heap.size Wb wx)
        case first =>
          have e01 : V 0 1 = 1 := by decide
          by_cases hin : inR (V ah al + V 0 1)
          · have hadd := fun w => Lib.hid (add_in ah al 0 1 w hA ⟨by decide, by decide, by decide, by decide⟩ hin)
            rw [e01] at hadd hin
            clear e01
            go_region_held3 (fun w' => Below Wb.heap.size Wb w' ∧ w'.cell? ⟨wr.heap.size, 0, none⟩ = some (.int .i64 ah) ∧ w'.cell? ⟨wr.heap.size, 1, none⟩ = some (.int .u64 al)) (first | assumption | exact (fun (hq : Below Wb.heap.size Wb _) => And.intro hq (And.intro (cellOf hq HI0.out hwlt) (cellOf hq HI1.out hwlt))) (Below.drew (Below.refl _ _)) | exact (fun (hq : Below Wb.heap.size Wb _) => And.intro hq (And.intro (cellOf hq HI0.out hwlt) (cellOf hq HI1.out hwlt))) (heldTrans (by assumption) (by assumption)) | exact (fun (hq : Below Wb.heap.size Wb _) => And.intro hq (And.intro (cellOf hq HI0.out hwlt) (cellOf hq HI1.out hwlt))) (heldAlloc (by assumption) _) | exact (fun (hq : Below Wb.heap.size Wb _) => And.intro hq (And.intro (cellOf hq HI0.out hwlt) (cellOf hq HI1.out hwlt))) (heldSet (heldSet2 (by assumption) (by first | omega | (simp <;> omega)) _) (by first | omega | (simp <;> omega)) _) | exact (fun (hq : Below Wb.heap.size Wb _) => And.intro hq (And.intro (cellOf hq HI0.out hwlt) (cellOf hq HI1.out hwlt))) (heldSet (by assumption) (by first | omega | (simp <;> omega)) _) | exact (fun (hq : Below Wb.heap.size Wb _) => And.intro hq (And.intro (cellOf hq HI0.out hwlt) (cellOf hq HI1.out hwlt))) (heldRe (by assumption) (by first | omega | (simp <;> omega)) _))
              (first | (go_at_call 34; refine ((hF1 _).out).mono ?_; rintro e w5 ⟨rfl, hb⟩; have hs5 := hb.size; (try simp at hs5); have zac0 := fun hq => (hb.cell (p := ⟨Wb.heap.size, 0, none⟩) hq); (try simp at zac0); have zaf0 := fun hq => (hb.frozen (p := ⟨Wb.heap.size, 0, none⟩) hq); (try simp at zaf0); have zac1 := fun hq => (hb.cell (p := ⟨Wb.heap.size, 1, none⟩) hq); (try simp at zac1); have zaf1 := fun hq => (hb.frozen (p := ⟨Wb.heap.size, 1, none⟩) hq); (try simp at zaf1)) | (go_at_call 33; refine ((hadd _).out).mono ?_; rintro e w6 ⟨rfl, hb⟩; have hs6 := hb.size; (try simp at hs6); have zbc0 := fun hq => (hb.cell (p := ⟨Wb.heap.size, 0, none⟩) hq); (try simp at zbc0); (first | replace zbc0 := zbc0 hs5 | skip); have zbf0 := fun hq => (hb.frozen (p := ⟨Wb.heap.size, 0, none⟩) hq); (try simp at zbf0); (first | replace zbf0 := zbf0 hs5 | skip); have zbc1 := fun hq => (hb.cell (p := ⟨Wb.heap.size, 1, none⟩) hq); (try simp at zbc1); (first | replace zbc1 := zbc1 hs5 | skip); have zbf1 := fun hq => (hb.frozen (p := ⟨Wb.heap.size, 1, none⟩) hq); (try simp at zbf1); (first | replace zbf1 := zbf1 hs5 | skip); have zdc0 := fun hq => (hb.cell (p := ⟨w5.heap.size, 0, none⟩) hq); (try simp at zdc0); have zdf0 := fun hq => (hb.frozen (p := ⟨w5.heap.size, 0, none⟩) hq); (try simp at zdf0); have zdc1 := fun hq => (hb.cell (p := ⟨w5.heap.size, 1, none⟩) hq); (try simp at zdc1); have zdf1 := fun hq => (hb.frozen (p := ⟨w5.heap.size, 1, none⟩) hq); (try simp at zdf1)))
            all_goals
              have hbW := heldB (by assumption)
              go_wp2_with fail
              go_meet
              exact ⟨_, _, _, _, rfl, rfl, by go_simp, by go_simp, .inl ⟨rfl, WR_split hin, V_split _⟩, hbW⟩
          · have hadd := fun w => Lib.hid (add_out ah al 0 1 w hA ⟨by decide, by decide, by decide, by decide⟩ hin)
            clear e01
            go_region_held3 (fun w' => Below Wb.heap.size Wb w' ∧ w'.cell? ⟨wr.heap.size, 0, none⟩ = some (.int .i64 ah) ∧ w'.cell? ⟨wr.heap.size, 1, none⟩ = some (.int .u64 al)) (first | assumption | exact (fun (hq : Below Wb.heap.size Wb _) => And.intro hq (And.intro (cellOf hq HI0.out hwlt) (cellOf hq HI1.out hwlt))) (Below.drew (Below.refl _ _)) | exact (fun (hq : Below Wb.heap.size Wb _) => And.intro hq (And.intro (cellOf hq HI0.out hwlt) (cellOf hq HI1.out hwlt))) (heldTrans (by assumption) (by assumption)) | exact (fun (hq : Below Wb.heap.size Wb _) => And.intro hq (And.intro (cellOf hq HI0.out hwlt) (cellOf hq HI1.out hwlt))) (heldAlloc (by assumption) _) | exact (fun (hq : Below Wb.heap.size Wb _) => And.intro hq (And.intro (cellOf hq HI0.out hwlt) (cellOf hq HI1.out hwlt))) (heldSet (heldSet2 (by assumption) (by first | omega | (simp <;> omega)) _) (by first | omega | (simp <;> omega)) _) | exact (fun (hq : Below Wb.heap.size Wb _) => And.intro hq (And.intro (cellOf hq HI0.out hwlt) (cellOf hq HI1.out hwlt))) (heldSet (by assumption) (by first | omega | (simp <;> omega)) _) | exact (fun (hq : Below Wb.heap.size Wb _) => And.intro hq (And.intro (cellOf hq HI0.out hwlt) (cellOf hq HI1.out hwlt))) (heldRe (by assumption) (by first | omega | (simp <;> omega)) _))
              (first | (go_at_call 34; refine ((hF1 _).out).mono ?_; rintro e w5 ⟨rfl, hb⟩; have hs5 := hb.size; (try simp at hs5); have zac0 := fun hq => (hb.cell (p := ⟨Wb.heap.size, 0, none⟩) hq); (try simp at zac0); have zaf0 := fun hq => (hb.frozen (p := ⟨Wb.heap.size, 0, none⟩) hq); (try simp at zaf0); have zac1 := fun hq => (hb.cell (p := ⟨Wb.heap.size, 1, none⟩) hq); (try simp at zac1); have zaf1 := fun hq => (hb.frozen (p := ⟨Wb.heap.size, 1, none⟩) hq); (try simp at zaf1)) | (go_at_call 33; refine ((hadd _).out).mono ?_; rintro e w6 ⟨rfl, hb⟩; have hs6 := hb.size; (try simp at hs6); have zbc0 := fun hq => (hb.cell (p := ⟨Wb.heap.size, 0, none⟩) hq); (try simp at zbc0); (first | replace zbc0 := zbc0 hs5 | skip); have zbf0 := fun hq => (hb.frozen (p := ⟨Wb.heap.size, 0, none⟩) hq); (try simp at zbf0); (first | replace zbf0 := zbf0 hs5 | skip); have zbc1 := fun hq => (hb.cell (p := ⟨Wb.heap.size, 1, none⟩) hq); (try simp at zbc1); (first | replace zbc1 := zbc1 hs5 | skip); have zbf1 := fun hq => (hb.frozen (p := ⟨Wb.heap.size, 1, none⟩) hq); (try simp at zbf1); (first | replace zbf1 := zbf1 hs5 | skip); have zdc0 := fun hq => (hb.cell (p := ⟨w5.heap.size, 0, none⟩) hq); (try simp at zdc0); have zdf0 := fun hq => (hb.frozen (p := ⟨w5.heap.size, 0, none⟩) hq); (try simp at zdf0); have zdc1 := fun hq => (hb.cell (p := ⟨w5.heap.size, 1, none⟩) hq); (try simp at zdc1); have zdf1 := fun hq => (hb.frozen (p := ⟨w5.heap.size, 1, none⟩) hq); (try simp at zdf1)))
            all_goals
              have hbW := heldB (by assumption)
              go_wp2_with fail
              go_meet
              exact ⟨_, 0, 0, _, rfl, rfl, by go_simp, by go_simp, .inr rfl, hbW⟩
        case rest =>
        obtain ⟨blk2, SH, SL, SE, rfl, rfl, hd0, hd1, hDE, hbx⟩ := hcut
        obtain ⟨W12, rfl⟩ : ∃ W12 : World, W12 = wc := ⟨_, rfl⟩
        have E := EB.out.next hbx
        clear hbx
        have p0 := E.cell (a := ⟨wr.heap.size, 0, none⟩) (v := .int .i64 ah) (by simp)
        have p1 := E.cell (a := ⟨wr.heap.size, 1, none⟩) (v := .int .u64 al) (by simp)
        have p2 := E.cell (a := ⟨wr.heap.size, 2, none⟩) (v := .int .i64 bh) (by simp)
        have p3 := E.cell (a := ⟨wr.heap.size, 3, none⟩) (v := .int .u64 bl) (by simp)
        have p4 := E.cell (a := ⟨wr.heap.size, 4, none⟩) (v := .int .i64 x) (by simp)
        have p5 := E.cell (a := ⟨wr.heap.size, 5, none⟩) (v := .int .i64 y) (by simp)
        have p6 := E.cell (a := ⟨wr.heap.size, 6, none⟩) (v := .int .i64 m) (by simp)
        go_upto_region 12 with fail
        go_cut [82] from 73 to 112 (fun s82 wx => s82 = .bool false ∧ Below W12.heap.size W12 wx)
        case first =>
          rcases hDE with ⟨rfl, hWR, hVD⟩ | rfl
          · have hsa := fun w => Lib.hid (cmp_any SH SL ah al w hWR hA)
            rw [hVD, cmpI_succ] at hsa
            go_wp2_with (first | (go_at_call 20; refine (num1_any _ _).mono ?_; rintro e w' ⟨rfl, rfl⟩) | (go_at_call 31; go_loud (refine ((hsa _).out).mono ?_; rintro e w7 ⟨rfl, hb⟩; have HB7 := Lib.hid hb; clear hb)))
            go_meet
            exact ⟨rfl, HB7.out⟩
          · go_wp2_with (first | (go_at_call 20; refine (num1_any _ _).mono ?_; rintro e w' ⟨rfl, rfl⟩))
            go_meet
            exact ⟨rfl, Below.refl _ _⟩
        case rest =>
        obtain ⟨rfl, hbx⟩ := hcut
        obtain ⟨W14, rfl⟩ : ∃ W14 : World, W14 = wc := ⟨_, rfl⟩
        replace E := E.next hbx
        clear hbx hd0 hd1 hDE p0 p1 p2 p3 p4 p5 p6
        have p0 := E.cell (a := ⟨wr.heap.size, 0, none⟩) (v := .int .i64 ah) (by simp)
        have p1 := E.cell (a := ⟨wr.heap.size, 1, none⟩) (v := .int .u64 al) (by simp)
        have p2 := E.cell (a := ⟨wr.heap.size, 2, none⟩) (v := .int .i64 bh) (by simp)
        have p3 := E.cell (a := ⟨wr.heap.size, 3, none⟩) (v := .int .u64 bl) (by simp)
        have p4 := E.cell (a := ⟨wr.heap.size, 4, none⟩) (v := .int .i64 x) (by simp)
        have p5 := E.cell (a := ⟨wr.heap.size, 5, none⟩) (v := .int .i64 y) (by simp)
        have p6 := E.cell (a := ⟨wr.heap.size, 6, none⟩) (v := .int .i64 m) (by simp)
        go_upto_region 15 with (first | (go_at_call 18; go_loud (refine ((hfx _).out).mono ?_; rintro e w8 ⟨rfl, hb⟩; replace E := E.next hb; clear hb; have p0 := E.cell (a := ⟨wr.heap.size, 0, none⟩) (v := .int .i64 ah) (by simp); have p1 := E.cell (a := ⟨wr.heap.size, 1, none⟩) (v := .int .u64 al) (by simp); have p2 := E.cell (a := ⟨wr.heap.size, 2, none⟩) (v := .int .i64 bh) (by simp); have p3 := E.cell (a := ⟨wr.heap.size, 3, none⟩) (v := .int .u64 bl) (by simp); have p4 := E.cell (a := ⟨wr.heap.size, 4, none⟩) (v := .int .i64 x) (by simp); have p5 := E.cell (a := ⟨wr.heap.size, 5, none⟩) (v := .int .i64 y) (by simp); have p6 := E.cell (a := ⟨wr.heap.size, 6, none⟩) (v := .int .i64 m) (by simp))) | (go_at_call 19; go_loud (refine ((hsm _).out).mono ?_; rintro e w9 ⟨rfl, hb⟩; replace E := E.next hb; clear hb; have p0 := E.cell (a := ⟨wr.heap.size, 0, none⟩) (v := .int .i64 ah) (by simp); have p1 := E.cell (a := ⟨wr.heap.size, 1, none⟩) (v := .int .u64 al) (by simp); have p2 := E.cell (a := ⟨wr.heap.size, 2, none⟩) (v := .int .i64 bh) (by simp); have p3 := E.cell (a := ⟨wr.heap.size, 3, none⟩) (v := .int .u64 bl) (by simp); have p4 := E.cell (a := ⟨wr.heap.size, 4, none⟩) (v := .int .i64 x) (by simp); have p5 := E.cell (a := ⟨wr.heap.size, 5, none⟩) (v := .int .i64 y) (by simp); have p6 := E.cell (a := ⟨wr.heap.size, 6, none⟩) (v := .int .i64 m) (by simp))))
        have hI4 := E.cell (a := ⟨wr.heap.size, 4, none⟩) (v := .int .i64 x) (by simp)
        have hI5 := E.cell (a := ⟨wr.heap.size, 5, none⟩) (v := .int .i64 y) (by simp)
        have hwlc : wr.heap.size < w9.heap.size := (E.cells (⟨wr.heap.size, 0, none⟩, .int .i64 ah) (by simp)).2
        have HI4 := Lib.hid hI4
        have HI5 := Lib.hid hI5
        have EC := Lib.hid E
        clear E hI4 hI5
        go_region_held3 (fun w' => Below w9.heap.size w9 w' ∧ w'.cell? ⟨wr.heap.size, 4, none⟩ = some (.int .i64 x) ∧ w'.cell? ⟨wr.heap.size, 5, none⟩ = some (.int .i64 y)) (first | assumption | exact (fun (hq : Below w9.heap.size w9 _) => And.intro hq (And.intro (cellOf hq HI4.out hwlc) (cellOf hq HI5.out hwlc))) (Below.drew (Below.refl _ _)) | exact (fun (hq : Below w9.heap.size w9 _) => And.intro hq (And.intro (cellOf hq HI4.out hwlc) (cellOf hq HI5.out hwlc))) (heldTrans (by assumption) (by assumption)))
          (first | (go_at_call 18; have hmk := M5; clear hmk M5; refine ((hfx _).out).mono ?_; rintro e wa ⟨rfl, hb⟩) | (go_at_call 18; have hmk := M6; clear hmk M6; refine ((hfy _).out).mono ?_; rintro e wb ⟨rfl, hb⟩) | (go_at_call 31; refine ((hxy _).out).mono ?_; rintro e wd ⟨rfl, hb⟩) | (go_at_call 35; refine ((hsg _).out).mono ?_; rintro e we ⟨rfl, hb⟩))
        all_goals
          have hbC := heldB (by assumption)
          have E := EC.out.next hbC
          clear hbC
          go_wp2_with fail
          refine ⟨⟨k + 1, by omega, by go_num, HB.out.trans (E.bel.mono hsz)⟩, ?_⟩
          simp [intOf]; omega
    · have HB := Lib.hid hbel
      clear hbel h
      by_cases hlt : k < n
      · have hk15 : ¬ (k : Int) < 30 := by omega
        have hkn : (k : Int) < n := by omega
        go_wp2_with (first | (go_at_call 17; refine (wakes1_any _).mono ?_; rintro e w1 ⟨rfl, hb⟩; have HW1 := Lib.hid hb; clear hb))
        go_ret
        exact ⟨rfl, HB.out.trans (HW1.out.mono HB.out.size)⟩
      · have hkn : ¬ (k : Int) < n := by omega
        go_wp2_with (first | (go_at_call 17; refine (wakes1_any _).mono ?_; rintro e w1 ⟨rfl, hb⟩; have HW1 := Lib.hid hb; clear hb))
        go_ret
        exact ⟨rfl, HB.out.trans (HW1.out.mono HB.out.size)⟩
end Go.Proofs.Ytlbmpdidmckgkaa
