/- The law WideDowns, walked. -/
import Derived.Test.YtlbmpdidmckgkaaDiv5
import Derived.Test.YtlbmpdidmckgkaaEnv
import Derived.Deep.RegionHeld3
import Derived.Deep.Cut
import Derived.Deep.CutRange
set_option linter.unusedVariables false
set_option linter.unusedSimpArgs false
namespace Go.Proofs.Ytlbmpdidmckgkaa
open Go.RowKit Go.Rt

theorem cmpI_swap (a b : Int) : cmpI b a = -cmpI a b := by unfold cmpI; (repeat' split) <;> omega
theorem cmpI_bounds (a b : Int) : -1 ≤ cmpI a b ∧ cmpI a b ≤ 1 := by unfold cmpI; (repeat' split) <;> omega
theorem cmpI_zero {a b : Int} : cmpI a b = 0 ↔ a = b := by unfold cmpI; constructor <;> intro h <;> (repeat' split at h) <;> (try split) <;> omega
theorem cmpI_sub (a b : Int) : cmpI (a - b) 0 = cmpI a b := by unfold cmpI; (repeat' split) <;> omega
theorem cmpI_succ (a : Int) : cmpI (a + 1) a = 1 := by unfold cmpI; (repeat' split) <;> omega
theorem V_split (s : Int) : V (s / 18446744073709551616) (s % 18446744073709551616) = s := by unfold V; omega
theorem V_from (x : Int) (h0 : -9223372036854775808 ≤ x) (h1 : x ≤ 9223372036854775807) : V (x / 9223372036854775808) (x % 18446744073709551616) = x := by unfold V; omega
theorem WR_from (x : Int) (h0 : -9223372036854775808 ≤ x) (h1 : x ≤ 9223372036854775807) : WR (x / 9223372036854775808) (x % 18446744073709551616) := ⟨by omega, by omega, by omega, by omega⟩
theorem WR_split {s : Int} (h : inR s) : WR (s / 18446744073709551616) (s % 18446744073709551616) := by unfold inR at h; exact ⟨by omega, by omega, by omega, by omega⟩
theorem cellOf {B : Nat} {Wb w' : World} {a : Addr} {v : Value} (h : Below B Wb w') (hc : Wb.cell? a = some v) (hlt : a.block < B) : w'.cell? a = some v := (h.cell (p := a) hlt).trans hc
theorem heldTrans {Wb w w' : World} {p : Prop} (h : Below Wb.heap.size Wb w ∧ p) (hb : Below w.heap.size w w') : Below Wb.heap.size Wb w' := h.1.trans (hb.mono h.1.size)
theorem heldAlloc {Wb w : World} {p : Prop} (h : Below Wb.heap.size Wb w ∧ p) (o : Obj) : Below Wb.heap.size Wb (w.alloc o) := h.1.alloc h.1.size _
theorem heldSet {Wb w : World} {p : Prop} {ad : Addr} (h : Below Wb.heap.size Wb w ∧ p) (hle : Wb.heap.size ≤ ad.block) (v : Value) : Below Wb.heap.size Wb (w.setCell ad v) := h.1.setCell hle _
theorem heldSet2 {Wb w : World} {p : Prop} {ad : Addr} (h : Below Wb.heap.size Wb w ∧ p) (hle : Wb.heap.size ≤ ad.block) (v : Value) : Below Wb.heap.size Wb (w.setCell ad v) ∧ True := ⟨h.1.setCell hle _, trivial⟩
theorem heldRe {Wb w : World} {p : Prop} {o : Obj} (h : Below Wb.heap.size Wb (w.alloc o) ∧ p) (hle : Wb.heap.size ≤ w.heap.size) (o' : Obj) : Below Wb.heap.size Wb (w.alloc o') := by
  have k1 : Below w.heap.size w (w.alloc o) := (Below.refl _ _).alloc (Nat.le_refl _) _
  have k2 : Below w.heap.size w (w.alloc o') := (Below.refl _ _).alloc (Nat.le_refl _) _
  exact ⟨k2.os.trans (k1.os.symm.trans h.1.os), k2.tape.trans (k1.tape.symm.trans h.1.tape), k2.output.trans (k1.output.symm.trans h.1.output), Nat.le_trans hle k2.size,
    fun i hi => (k2.block i (Nat.lt_of_lt_of_le hi hle)).trans ((k1.block i (Nat.lt_of_lt_of_le hi hle)).symm.trans (h.1.block i hi))⟩
theorem zz {n : Nat} {W w' : World} (hb : Below n W w') (b : Nat) (hlt : b < n) : w'.cell? ⟨b, 0, none⟩ = W.cell? ⟨b, 0, none⟩ ∧ w'.cell? ⟨b, 1, none⟩ = W.cell? ⟨b, 1, none⟩ ∧ w'.frozen? ⟨b, 0, none⟩ = W.frozen? ⟨b, 0, none⟩ ∧ w'.frozen? ⟨b, 1, none⟩ = W.frozen? ⟨b, 1, none⟩ :=
  ⟨hb.cell (p := ⟨b, 0, none⟩) hlt, hb.cell (p := ⟨b, 1, none⟩) hlt, hb.frozen (p := ⟨b, 0, none⟩) hlt, hb.frozen (p := ⟨b, 1, none⟩) hlt⟩
theorem heldB {Wb w : World} {p : Prop} (h : Below Wb.heap.size Wb w ∧ p) : Below Wb.heap.size Wb w := h.1

theorem envW {k : IntKind} {e : TypeId} {B : Nat} {w0 W : World} {L : List (Option Addr × List Int)} {O : List (Nat × Option Addr × Nat × List Int)} {C : List (Addr × Value)} (E : Env k e B w0 W L O C) : ∃ Wb, W = Wb := ⟨_, rfl⟩
theorem downs_facts (n d : Int) (hn : inR n) (hd : 1 ≤ d) : inR (downI n d) ∧ inR (roundI n d) ∧ 0 ≤ roundI n d - downI n d ∧ roundI n d - downI n d ≤ 1 := by
  have ed : absI d = d := by unfold absI; rw [if_neg (by omega)]
  have nd : decide (d < 0) = false := by simp; omega
  have ea := Int.mul_ediv_add_emod (absI n) d
  have h0 : 0 ≤ absI n := by unfold absI; split <;> omega
  have q0 : 0 ≤ absI n / d := Int.ediv_nonneg h0 (by omega)
  have r0 : 0 ≤ absI n % d := Int.emod_nonneg _ (by omega)
  have r1 : absI n % d < d := Int.emod_lt_of_pos _ (by omega)
  have qa : absI n / d ≤ absI n := Int.ediv_le_self _ h0
  have qb : 1 ≤ absI n % d → absI n / d + 1 ≤ absI n := by
    intro hr
    have := Int.mul_le_mul_of_nonneg_right hd q0
    rw [Int.one_mul] at this
    omega
  unfold downI roundI
  rw [ed, nd]
  obtain ⟨q, hq⟩ : ∃ q, absI n / d = q := ⟨_, rfl⟩
  obtain ⟨r, hr⟩ : ∃ q, absI n % d = q := ⟨_, rfl⟩
  rw [hq, hr] at ea
  rw [hq] at q0 qa qb
  rw [hr] at r0 r1 qb
  rw [hq, hr]
  clear ea
  have hu : upR q r d = true → 1 ≤ r := by
    intro h
    unfold upR at h
    simp at h
    omega
  unfold inR at hn ⊢
  by_cases hn0 : n < 0
  · have en : absI n = -n := by unfold absI; rw [if_pos hn0]
    rw [en] at qa qb
    rw [decide_eq_true hn0]
    simp only [bne_self_eq_false, Bool.true_bne, Bool.not_false, if_true, Bool.true_and]
    cases hU : upR q r d with
    | true =>
      have := hu hU
      have e1 : decide (¬ r = 0) = true := by simp; omega
      rw [e1]
      simp only [if_true]
      omega
    | false =>
      simp only [Bool.false_eq_true, if_false]
      by_cases hr0 : r = 0
      · have e1 : decide (¬ r = 0) = false := by simp; omega
        rw [e1]
        simp only [Bool.false_eq_true, if_false]
        omega
      · have e1 : decide (¬ r = 0) = true := by simp; omega
        rw [e1]
        simp only [if_true]
        omega
  · have en : absI n = n := by unfold absI; rw [if_neg hn0]
    rw [en] at qa qb
    rw [decide_eq_false hn0]
    simp only [bne_self_eq_false, Bool.false_eq_true, if_false, Bool.false_and]
    cases hU : upR q r d with
    | true =>
      have := hu hU
      simp only [if_true]
      omega
    | false =>
      simp only [Bool.false_eq_true, if_false]
      omega
theorem down_one (ah al FH FL d : Int) (w : World) (hA : WR ah al) (hF : WR FH FL) (hV : V FH FL = d) (hd : 1 ≤ d) (h1 : d < 18446744073709551616) (name : Bool) :
    Calls Try.prog (if name = true then 15 else 14) #[.agg #[.int .i64 ah, .int .u64 al], .agg #[.int .i64 FH, .int .u64 FL]] w (RetWE w ((if name = true then downI (V ah al) d else roundI (V ah al) d) / 18446744073709551616) ((if name = true then downI (V ah al) d else roundI (V ah al) d) % 18446744073709551616) 0) := by
  have hin := downs_facts (V ah al) d (by obtain ⟨_, _, _, _⟩ := hA; unfold V inR; omega) hd
  have hz : ¬ (FH = 0 ∧ FL = 0) := by rintro ⟨e1, e2⟩; rw [e1, e2] at hV; unfold V at hV; omega
  have hAd : A FH FL = d := by unfold A; rw [hV, if_neg (by omega)]
  have hb := A_bounds ah al hA
  have hdiv : ∀ w, Div (A ah al) (A FH FL) w := fun w => by rw [hAd]; exact divide_lo _ _ w hb.1 (by omega) hd h1
  cases name with
  | true =>
    simp only [if_true]
    have := (down_of ah al FH FL w hA hF hz hdiv).1
    rw [hV] at this
    exact this hin.1
  | false =>
    simp only [Bool.false_eq_true, if_false]
    have := (round_of ah al FH FL w hA hF hz hdiv).1
    rw [hV] at this
    exact this hin.2.1

set_option maxHeartbeats 3000000 in
set_option maxRecDepth 100000 in
theorem wideDowns_any (a : Option Addr) (n c : Nat) (w : World) (h : PairsAt w w.heap.size a n) :
    Calls Try.prog 5 #[.slice a n c] w fun e w' => e = .returned (.bool true) ∧ Below w.heap.size w w' := by
  have hm := h.len
  go_enter Try.func5, Try.ntmps5
  go_wp2_with fail
  go_loopw [3] (fun i wr => ∃ k : Nat, k ≤ n ∧ i = .int .i64 k ∧ Below w.heap.size w wr) (fun i _ => n - (intOf i).toNat)
  case atStart => exact ⟨0, Nat.zero_le _, rfl, Below.refl _ _⟩
  case round =>
    obtain ⟨k, hk, rfl, hbel⟩ := hrel
    by_cases hend : k < n ∧ k < 30
    · obtain ⟨hlt, h20⟩ := hend
      obtain ⟨b, off, ah, al, bh, bl, x, y, m, rfl, ht⟩ := h.at_ k hlt
      replace ht := ht.below hbel
      have hsz := hbel.size
      obtain ⟨hlb, c0, c1, c2, c3, c4, c5, c6, hA, hB, x0, x1, y0, y1, m0, m1⟩ := ht
      have HB := Lib.hid hbel
      clear hbel h
      have E : Env .u64 23 wr.heap.size wr (wr.alloc (.cells #[.int .i64 ah, .int .u64 al, .int .i64 bh, .int .u64 bl, .int .i64 x, .int .i64 y, .int .i64 m] 27)) [] [] [(⟨wr.heap.size, 6, none⟩, .int .i64 m), (⟨wr.heap.size, 5, none⟩, .int .i64 y), (⟨wr.heap.size, 4, none⟩, .int .i64 x), (⟨wr.heap.size, 3, none⟩, .int .u64 bl), (⟨wr.heap.size, 2, none⟩, .int .i64 bh), (⟨wr.heap.size, 1, none⟩, .int .u64 al), (⟨wr.heap.size, 0, none⟩, .int .i64 ah)] :=
        (((((((((Env.start .u64 23 wr)).alloc _).addC (by simp [go_sem])).addC (by simp [go_sem])).addC (by simp [go_sem])).addC (by simp [go_sem])).addC (by simp [go_sem])).addC (by simp [go_sem])).addC (by simp [go_sem])
      have hD4 : -4611686018427387904 ≤ y / 2 ∧ y / 2 ≤ 4611686018427387903 := by omega
      obtain ⟨D, hD⟩ : ∃ q, y / 2 = q := ⟨_, rfl⟩
      rw [hD] at hD4
      obtain ⟨hD0, hD1⟩ := hD4
      have p0 := E.cell (a := ⟨wr.heap.size, 0, none⟩) (v := .int .i64 ah) (by simp)
      have p1 := E.cell (a := ⟨wr.heap.size, 1, none⟩) (v := .int .u64 al) (by simp)
      have p2 := E.cell (a := ⟨wr.heap.size, 2, none⟩) (v := .int .i64 bh) (by simp)
      have p3 := E.cell (a := ⟨wr.heap.size, 3, none⟩) (v := .int .u64 bl) (by simp)
      have p4 := E.cell (a := ⟨wr.heap.size, 4, none⟩) (v := .int .i64 x) (by simp)
      have p5 := E.cell (a := ⟨wr.heap.size, 5, none⟩) (v := .int .i64 y) (by simp)
      have p6 := E.cell (a := ⟨wr.heap.size, 6, none⟩) (v := .int .i64 m) (by simp)
      by_cases hd : D ≤ 0
      · go_wp2_with fail
        refine ⟨⟨k + 1, by omega, by go_num, HB.out.trans (E.bel.mono hsz)⟩, ?_⟩
        simp [intOf]; omega
      · have hdf := downs_facts (V ah al) D (by obtain ⟨_, _, _, _⟩ := hA; unfold V inR; omega) (by omega)
        have hF1 := fun w => Lib.hid (from_any D w (by omega) (by omega))
        have hWF := WR_from D (by omega) (by omega)
        have hVF := V_from D (by omega) (by omega)
        obtain ⟨FH, hFH⟩ : ∃ q, D / 9223372036854775808 = q := ⟨_, rfl⟩
        obtain ⟨FL, hFL⟩ : ∃ q, D % 18446744073709551616 = q := ⟨_, rfl⟩
        rw [hFH, hFL] at hF1 hWF hVF
        have hdn := fun w => Lib.hid (down_one ah al FH FL D w hA hWF hVF (by omega) (by omega) true)
        have hrd := fun w => Lib.hid (down_one ah al FH FL D w hA hWF hVF (by omega) (by omega) false)
        simp only [if_true, Bool.false_eq_true, if_false] at hdn hrd
        obtain ⟨X, hX⟩ : ∃ q, downI (V ah al) D = q := ⟨_, rfl⟩
        obtain ⟨Y, hY⟩ : ∃ q, roundI (V ah al) D = q := ⟨_, rfl⟩
        rw [hX, hY] at hdf
        rw [hX] at hdn
        rw [hY] at hrd
        obtain ⟨hiX, hiY, hc0, hc1⟩ := hdf
        have hsub := fun w => Lib.hid (sub_in (Y / 18446744073709551616) (Y % 18446744073709551616) (X / 18446744073709551616) (X % 18446744073709551616) w (WR_split hiY) (WR_split hiX) (by rw [V_split, V_split]; exact ⟨by omega, by omega⟩))
        rw [V_split, V_split] at hsub
        obtain ⟨C, hC⟩ : ∃ q, Y - X = q := ⟨_, rfl⟩
        rw [hC] at hsub hc0 hc1
        have eC1 : C / 18446744073709551616 = 0 := by omega
        have eC2 : C % 18446744073709551616 = C := by omega
        rw [eC1, eC2] at hsub
        have hsm := fun w => Lib.hid (small_any 0 C w ⟨by omega, by omega, by omega, by omega⟩)
        have eVC : V 0 C = C := by unfold V; omega
        rw [eVC, if_pos (And.intro (by omega) (by omega)), decide_eq_true (And.intro (by omega) (by omega))] at hsm
        obtain ⟨XH, hXH⟩ : ∃ q, X / 18446744073709551616 = q := ⟨_, rfl⟩
        obtain ⟨XL, hXL⟩ : ∃ q, X % 18446744073709551616 = q := ⟨_, rfl⟩
        obtain ⟨YH, hYH⟩ : ∃ q, Y / 18446744073709551616 = q := ⟨_, rfl⟩
        obtain ⟨YL, hYL⟩ : ∃ q, Y % 18446744073709551616 = q := ⟨_, rfl⟩
        rw [hXH, hXL] at hdn hsub
        rw [hYH, hYL] at hrd hsub
        clear hXH hXL hYH hYL hX hY hiX hiY eC1 eC2 eVC hFH hFL hWF hVF hC
        go_upto_region 7 with fail
        obtain ⟨Wb, hWb⟩ := envW E
        rw [hWb] at E ⊢
        clear hWb
        have hI0 := E.cell (a := ⟨wr.heap.size, 0, none⟩) (v := .int .i64 ah) (by simp)
        have hI1 := E.cell (a := ⟨wr.heap.size, 1, none⟩) (v := .int .u64 al) (by simp)
        have hwlt : wr.heap.size < Wb.heap.size := (E.cells (⟨wr.heap.size, 5, none⟩, .int .i64 y) (by simp)).2
        have HI0 := Lib.hid hI0
        have HI1 := Lib.hid hI1
        have EB := Lib.hid E
        clear E hI0 hI1
        go_cut [6, 7] from 14 to 82 (fun s6 s7 wx => ∃ (blk : Nat), s6 = .pointer (some ⟨blk, 0, none⟩) ∧ s7 = .int .i64 0 ∧ wx.cell? ⟨blk, 0, none⟩ = some (.int .i64 XH) ∧ wx.cell? ⟨blk, 1, none⟩ = some (.int .u64 XL) ∧ Below Wb.heap.size Wb wx)
        case first =>
          go_region_held3 (fun w' => Below Wb.heap.size Wb w' ∧ w'.cell? ⟨wr.heap.size, 0, none⟩ = some (.int .i64 ah) ∧ w'.cell? ⟨wr.heap.size, 1, none⟩ = some (.int .u64 al)) (first | assumption | exact (fun (hq : Below Wb.heap.size Wb _) => And.intro hq (And.intro (cellOf hq HI0.out hwlt) (cellOf hq HI1.out hwlt))) (Below.drew (Below.refl _ _)) | exact (fun (hq : Below Wb.heap.size Wb _) => And.intro hq (And.intro (cellOf hq HI0.out hwlt) (cellOf hq HI1.out hwlt))) (heldTrans (by assumption) (by assumption)) | exact (fun (hq : Below Wb.heap.size Wb _) => And.intro hq (And.intro (cellOf hq HI0.out hwlt) (cellOf hq HI1.out hwlt))) (heldAlloc (by assumption) _) | exact (fun (hq : Below Wb.heap.size Wb _) => And.intro hq (And.intro (cellOf hq HI0.out hwlt) (cellOf hq HI1.out hwlt))) (heldSet (heldSet2 (by assumption) (by first | omega | (simp <;> omega)) _) (by first | omega | (simp <;> omega)) _) | exact (fun (hq : Below Wb.heap.size Wb _) => And.intro hq (And.intro (cellOf hq HI0.out hwlt) (cellOf hq HI1.out hwlt))) (heldSet (by assumption) (by first | omega | (simp <;> omega)) _) | exact (fun (hq : Below Wb.heap.size Wb _) => And.intro hq (And.intro (cellOf hq HI0.out hwlt) (cellOf hq HI1.out hwlt))) (heldRe (by assumption) (by first | omega | (simp <;> omega)) _))
            (first | (go_at_call 18; refine ((hF1 _).out).mono ?_; rintro e w5 ⟨rfl, hb⟩; have hs5 := hb.size; (try simp at hs5); have zac0 := fun hq => (hb.cell (p := ⟨Wb.heap.size, 0, none⟩) hq); (try simp at zac0); have zaf0 := fun hq => (hb.frozen (p := ⟨Wb.heap.size, 0, none⟩) hq); (try simp at zaf0); have zac1 := fun hq => (hb.cell (p := ⟨Wb.heap.size, 1, none⟩) hq); (try simp at zac1); have zaf1 := fun hq => (hb.frozen (p := ⟨Wb.heap.size, 1, none⟩) hq); (try simp at zaf1)) | (go_at_call 15; refine ((hdn _).out).mono ?_; rintro e w6 ⟨rfl, hb⟩; have hs6 := hb.size; (try simp at hs6); have zbc0 := fun hq => (hb.cell (p := ⟨Wb.heap.size, 0, none⟩) hq); (try simp at zbc0); (first | replace zbc0 := zbc0 hs5 | skip); have zbf0 := fun hq => (hb.frozen (p := ⟨Wb.heap.size, 0, none⟩) hq); (try simp at zbf0); (first | replace zbf0 := zbf0 hs5 | skip); have zbc1 := fun hq => (hb.cell (p := ⟨Wb.heap.size, 1, none⟩) hq); (try simp at zbc1); (first | replace zbc1 := zbc1 hs5 | skip); have zbf1 := fun hq => (hb.frozen (p := ⟨Wb.heap.size, 1, none⟩) hq); (try simp at zbf1); (first | replace zbf1 := zbf1 hs5 | skip); have zdc0 := fun hq => (hb.cell (p := ⟨w5.heap.size, 0, none⟩) hq); (try simp at zdc0); have zdf0 := fun hq => (hb.frozen (p := ⟨w5.heap.size, 0, none⟩) hq); (try simp at zdf0); have zdc1 := fun hq => (hb.cell (p := ⟨w5.heap.size, 1, none⟩) hq); (try simp at zdc1); have zdf1 := fun hq => (hb.frozen (p := ⟨w5.heap.size, 1, none⟩) hq); (try simp at zdf1)))
          all_goals
            have hbW := heldB (by assumption)
            go_wp2_with fail
            go_meet
            exact ⟨_, rfl, rfl, by go_simp, by go_simp, hbW⟩
        case rest =>
        obtain ⟨blk, rfl, rfl, hd0, hd1, hbx⟩ := hcut
        obtain ⟨W8, rfl⟩ : ∃ W8 : World, W8 = wc := ⟨_, rfl⟩
        have E := EB.out.next hbx
        have hbl := World.block_lt_of_cell? W8 _ hd0
        have HD0 := Lib.hid hd0
        have HD1 := Lib.hid hd1
        clear hbx hd0 hd1 HI0 HI1 EB
        replace hwlt := Lib.hid hwlt
        clear hwlt
        go_upto_region 8 with fail
        have hI0 := E.cell (a := ⟨wr.heap.size, 0, none⟩) (v := .int .i64 ah) (by simp)
        have hI1 := E.cell (a := ⟨wr.heap.size, 1, none⟩) (v := .int .u64 al) (by simp)
        have hwlt : wr.heap.size < W8.heap.size := (E.cells (⟨wr.heap.size, 5, none⟩, .int .i64 y) (by simp)).2
        have HI0 := Lib.hid hI0
        have HI1 := Lib.hid hI1
        have EB := Lib.hid E
        clear E hI0 hI1
        go_cut [8, 9] from 14 to 82 (fun s8 s9 wx => ∃ (blk : Nat), s8 = .pointer (some ⟨blk, 0, none⟩) ∧ s9 = .int .i64 0 ∧ wx.cell? ⟨blk, 0, none⟩ = some (.int .i64 YH) ∧ wx.cell? ⟨blk, 1, none⟩ = some (.int .u64 YL) ∧ Below W8.heap.size W8 wx)
        case first =>
          go_region_held3 (fun w' => Below W8.heap.size W8 w' ∧ w'.cell? ⟨wr.heap.size, 0, none⟩ = some (.int .i64 ah) ∧ w'.cell? ⟨wr.heap.size, 1, none⟩ = some (.int .u64 al)) (first | assumption | exact (fun (hq : Below W8.heap.size W8 _) => And.intro hq (And.intro (cellOf hq HI0.out hwlt) (cellOf hq HI1.out hwlt))) (Below.drew (Below.refl _ _)) | exact (fun (hq : Below W8.heap.size W8 _) => And.intro hq (And.intro (cellOf hq HI0.out hwlt) (cellOf hq HI1.out hwlt))) (heldTrans (by assumption) (by assumption)) | exact (fun (hq : Below W8.heap.size W8 _) => And.intro hq (And.intro (cellOf hq HI0.out hwlt) (cellOf hq HI1.out hwlt))) (heldAlloc (by assumption) _) | exact (fun (hq : Below W8.heap.size W8 _) => And.intro hq (And.intro (cellOf hq HI0.out hwlt) (cellOf hq HI1.out hwlt))) (heldSet (heldSet2 (by assumption) (by first | omega | (simp <;> omega)) _) (by first | omega | (simp <;> omega)) _) | exact (fun (hq : Below W8.heap.size W8 _) => And.intro hq (And.intro (cellOf hq HI0.out hwlt) (cellOf hq HI1.out hwlt))) (heldSet (by assumption) (by first | omega | (simp <;> omega)) _) | exact (fun (hq : Below W8.heap.size W8 _) => And.intro hq (And.intro (cellOf hq HI0.out hwlt) (cellOf hq HI1.out hwlt))) (heldRe (by assumption) (by first | omega | (simp <;> omega)) _))
            (first | (go_at_call 18; refine ((hF1 _).out).mono ?_; rintro e w5 ⟨rfl, hb⟩; have hs5 := hb.size; (try simp at hs5); have zac0 := fun hq => (hb.cell (p := ⟨W8.heap.size, 0, none⟩) hq); (try simp at zac0); have zaf0 := fun hq => (hb.frozen (p := ⟨W8.heap.size, 0, none⟩) hq); (try simp at zaf0); have zac1 := fun hq => (hb.cell (p := ⟨W8.heap.size, 1, none⟩) hq); (try simp at zac1); have zaf1 := fun hq => (hb.frozen (p := ⟨W8.heap.size, 1, none⟩) hq); (try simp at zaf1)) | (go_at_call 14; refine ((hrd _).out).mono ?_; rintro e w6 ⟨rfl, hb⟩; have hs6 := hb.size; (try simp at hs6); have zbc0 := fun hq => (hb.cell (p := ⟨W8.heap.size, 0, none⟩) hq); (try simp at zbc0); (first | replace zbc0 := zbc0 hs5 | skip); have zbf0 := fun hq => (hb.frozen (p := ⟨W8.heap.size, 0, none⟩) hq); (try simp at zbf0); (first | replace zbf0 := zbf0 hs5 | skip); have zbc1 := fun hq => (hb.cell (p := ⟨W8.heap.size, 1, none⟩) hq); (try simp at zbc1); (first | replace zbc1 := zbc1 hs5 | skip); have zbf1 := fun hq => (hb.frozen (p := ⟨W8.heap.size, 1, none⟩) hq); (try simp at zbf1); (first | replace zbf1 := zbf1 hs5 | skip); have zdc0 := fun hq => (hb.cell (p := ⟨w5.heap.size, 0, none⟩) hq); (try simp at zdc0); have zdf0 := fun hq => (hb.frozen (p := ⟨w5.heap.size, 0, none⟩) hq); (try simp at zdf0); have zdc1 := fun hq => (hb.cell (p := ⟨w5.heap.size, 1, none⟩) hq); (try simp at zdc1); have zdf1 := fun hq => (hb.frozen (p := ⟨w5.heap.size, 1, none⟩) hq); (try simp at zdf1)))
          all_goals
            have hbW := heldB (by assumption)
            go_wp2_with fail
            go_meet
            exact ⟨_, rfl, rfl, by go_simp, by go_simp, hbW⟩
        case rest =>
        obtain ⟨blk2, rfl, rfl, he0, he1, hbx⟩ := hcut
        obtain ⟨W9, rfl⟩ : ∃ W9 : World, W9 = wc := ⟨_, rfl⟩
        have E := EB.out.next hbx
        have hd0 := cellOf hbx HD0.out hbl
        have hd1 := cellOf hbx HD1.out hbl
        clear hbx
        go_wp2_with (first | (go_at_call 20; refine (num1_any _ _).mono ?_; rintro e w' ⟨rfl, rfl⟩) | (go_at_call 28; go_loud (refine ((hsub _).out).mono ?_; rintro e w3 ⟨rfl, hb⟩; replace E := (E.next hb).alloc (.cells #[.int .i64 0, .int .u64 C] 25); clear hb)) | (go_at_call 19; go_loud (refine ((hsm _).out).mono ?_; rintro e w9 ⟨rfl, hb⟩; replace E := E.next hb; clear hb)))
        refine ⟨⟨k + 1, by omega, by go_num, HB.out.trans (E.bel.mono hsz)⟩, ?_⟩
        simp [intOf]; omega
    · have HB := Lib.hid hbel
      clear hbel h
      by_cases hlt : k < n
      · have hk15 : ¬ (k : Int) < 30 := by omega
        have hkn : (k : Int) < n := by omega
        go_wp2_with (first | (go_at_call 17; refine (wakes1_any _).mono ?_; rintro e w1 ⟨rfl, hb⟩; have HW1 := Lib.hid hb; clear hb))
        go_ret
        exact ⟨rfl, HB.out.trans (HW1.out.mono HB.out.size)⟩
      · have hkn : ¬ (k : Int) < n := by omega
        go_wp2_with (first | (go_at_call 17; refine (wakes1_any _).mono ?_; rintro e w1 ⟨rfl, hb⟩; have HW1 := Lib.hid hb; clear hb))
        go_ret
        exact ⟨rfl, HB.out.trans (HW1.out.mono HB.out.size)⟩
end Go.Proofs.Ytlbmpdidmckgkaa
