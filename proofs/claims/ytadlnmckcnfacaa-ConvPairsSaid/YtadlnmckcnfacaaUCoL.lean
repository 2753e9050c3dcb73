import Derived.Test.YtadlnmckcnfacaaUCoD
set_option linter.unusedVariables false
set_option linter.unusedSimpArgs false
namespace Go.Proofs.Ytadlnmckcnfacaa
open Go.RowKit Go.Rt
attribute [local go_sem] Oper.semAt_some
def Small2 (xs : List Int) : Prop := xs.length ≤ 2 ∧ ∀ x ∈ xs, 0 ≤ x ∧ x ≤ 16384
theorem small2_pref {xs : List Int} (h : Small2 xs) (k : Nat) : 0 ≤ prodI (xs.take k) ∧ prodI (xs.take k) ≤ 268435456 := by
 obtain ⟨h1, h2⟩ := h
 match xs, h1, h2 with
 | [], _, _ => simp [prodI]
 | [x], _, h2 =>
  have := h2 x (by simp)
  match k with
  | 0 => simp [prodI]
  | k + 1 => simp [prodI]; omega
 | [x, y], _, h2 =>
  have hx := h2 x (by simp)
  have hy := h2 y (by simp)
  match k with
  | 0 => simp [prodI]
  | 1 => simp [prodI]; omega
  | k + 2 =>
   have e : prodI (([x, y] : List Int).take (k + 2)) = x * y := by simp [prodI]
   rw [e]
   have h3 := Int.mul_nonneg hx.1 hy.1
   have h4 := Int.mul_le_mul hx.2 hy.2 hy.1 (by omega)
   omega
set_option maxHeartbeats 400000 in
theorem size_small (a : Option Addr) (c hi : Nat) (xs : List Int) (w : World) (h : Ints .i64 w hi a xs) (hs : Small2 xs) :
  Calls Try.prog 70 #[.slice a xs.length c] w fun e w' => e = .returned (.int .i64 (prodI xs)) ∧ w = w' := by
 obtain ⟨hm, _, hc⟩ := h
 have hpf := fun k => Lib.hid (small2_pref hs k)
 clear hs
 go_enter Try.func70, Try.ntmps70
 go_wp2
 go_loop [3, 8] (fun n i => ∃ k : Nat, k ≤ xs.length ∧ i = .int .i64 k ∧ n = .int .i64 (prodI (xs.take k))) (fun _ i => xs.length - (intOf i).toNat)
 case atStart => exact ⟨0, Nat.zero_le _, rfl, rfl⟩
 case round =>
  obtain ⟨k, hk, rfl, rfl⟩ := hrel
  by_cases hlt : k < xs.length
  ·obtain ⟨b, off, rfl, _, hcell⟩ := hc k hlt
   clear hc
   have HS := Lib.hid (prodI_take_succ xs k hlt)
   have hp1 := (hpf (k + 1)).out
   rw [HS.out] at hp1
   clear hpf
   go_wp2
   go_round
   case rel => exact ⟨k + 1, by omega, by go_num, by rw [HS.out]⟩
   case measure => simp [intOf]; omega
  ·have hke : k = xs.length := by omega
   subst hke
   go_wp2
   go_ret
   exact ⟨by simp, rfl⟩
theorem count_small (a : Option Addr) (c hi : Nat) (xs : List Int) (w : World) (h : Ints .i64 w hi a xs) (hg : Small2 xs) :
  Calls Try.prog 36 #[.slice a xs.length c] w fun e w' => e = .returned (.int .i64 (prodI xs)) ∧ w = w' := by
 have hs := Lib.hid (size_small a c hi xs w h hg)
 clear h hg
 go_enter Try.func36, Try.ntmps36
 go_wp2_with (first | (go_at_call 70; refine hs.out.mono ?_; rintro e w' ⟨rfl, rfl⟩))
 go_ret
 exact ⟨rfl, rfl⟩
theorem winPlaces_small (aL aK aO aQ aS aP aD : Option Addr) (cL cK cO cQ cS cP cD : Nat) (Q : List Int) (wv : WinV) (w : World) (h : Ints .i64 w w.heap.size aO wv.O) (hg : Small2 wv.O) :
  Calls Try.prog 37 #[.agg #[.slice aL wv.L.length cL, .slice aK wv.K.length cK, .slice aO wv.O.length cO, .slice aQ Q.length cQ, .slice aS wv.S.length cS, .slice aP wv.P.length cP, .slice aD wv.D.length cD]] w fun e w' => e = .returned (.int .i64 (prodI wv.O)) ∧ Below w.heap.size w w' := by
 have F1 := Lib.hid ((Fr.start (w := w) (I := [(.i64, aO, wv.O)]) (by intro z hz; simp at hz; rcases hz with rfl; exact h)).box1 (b := w.heap.size) rfl [.slice aL wv.L.length cL, .slice aK wv.K.length cK, .slice aO wv.O.length cO, .slice aQ Q.length cQ, .slice aS wv.S.length cS, .slice aP wv.P.length cP, .slice aD wv.D.length cD] 64)
 have hs := fun W (h : Ints .i64 W W.heap.size aO wv.O) => count_small aO cO W.heap.size wv.O W h hg
 have HS := Lib.hid hs
 clear h hg hs
 generalize prodI wv.O = N at *
 go_enter Try.func37, Try.ntmps37
 go_upto_region 1 with fail
 simp only [List.nil_append] at F1
 obtain ⟨W1, hW1⟩ : ∃ W1, w.alloc (.cells #[.slice aL wv.L.length cL, .slice aK wv.K.length cK, .slice aO wv.O.length cO, .slice aQ Q.length cQ, .slice aS wv.S.length cS, .slice aP wv.P.length cP, .slice aD wv.D.length cD] 64) = W1 := ⟨_, rfl⟩
 rw [hW1] at F1 ⊢
 clear hW1
 have c0 := F1.out.c 0 2 rfl rfl
 go_wp2_with (first | (go_at_call 36; refine (HS.out _ (F1.out.lw 0 rfl)).mono ?_; rintro e w' ⟨rfl, rfl⟩))
 go_ret
 exact ⟨rfl, F1.out.bel⟩
theorem winTaps_small (aL aK aO aQ aS aP aD : Option Addr) (cL cK cO cQ cS cP cD : Nat) (Q : List Int) (wv : WinV) (w : World) (h : Ints .i64 w w.heap.size aK wv.K) (hg : Small2 wv.K) :
  Calls Try.prog 41 #[.agg #[.slice aL wv.L.length cL, .slice aK wv.K.length cK, .slice aO wv.O.length cO, .slice aQ Q.length cQ, .slice aS wv.S.length cS, .slice aP wv.P.length cP, .slice aD wv.D.length cD]] w fun e w' => e = .returned (.int .i64 (prodI wv.K)) ∧ Below w.heap.size w w' := by
 have F1 := Lib.hid ((Fr.start (w := w) (I := [(.i64, aK, wv.K)]) (by intro z hz; simp at hz; rcases hz with rfl; exact h)).box1 (b := w.heap.size) rfl [.slice aL wv.L.length cL, .slice aK wv.K.length cK, .slice aO wv.O.length cO, .slice aQ Q.length cQ, .slice aS wv.S.length cS, .slice aP wv.P.length cP, .slice aD wv.D.length cD] 64)
 have hs := fun W (h : Ints .i64 W W.heap.size aK wv.K) => count_small aK cK W.heap.size wv.K W h hg
 have HS := Lib.hid hs
 clear h hg hs
 generalize prodI wv.K = N at *
 go_enter Try.func41, Try.ntmps41
 go_upto_region 1 with fail
 simp only [List.nil_append] at F1
 obtain ⟨W1, hW1⟩ : ∃ W1, w.alloc (.cells #[.slice aL wv.L.length cL, .slice aK wv.K.length cK, .slice aO wv.O.length cO, .slice aQ Q.length cQ, .slice aS wv.S.length cS, .slice aP wv.P.length cP, .slice aD wv.D.length cD] 64) = W1 := ⟨_, rfl⟩
 rw [hW1] at F1 ⊢
 clear hW1
 have c0 := F1.out.c 0 1 rfl rfl
 go_wp2_with (first | (go_at_call 36; refine (HS.out _ (F1.out.lw 0 rfl)).mono ?_; rintro e w' ⟨rfl, rfl⟩))
 go_ret
 exact ⟨rfl, F1.out.bel⟩
theorem cols_R {xs ks Q : List Int} {wv : WinV} (hL : wv.L = xs.drop 2) (hK : wv.K = ks) (hg : goodB xs = true) (hk : ks.all (okI 1) = true) (hn : numB false Q wv.S wv.P wv.D = true) (hl : xs.length = 2 + wv.S.length) (hl2 : ks.length = wv.S.length) : wv.R ∧ 1 ≤ wv.L.length := by
 obtain ⟨⟨h1, h2, h3, h4, _, _⟩, h6, h7, h8, h9⟩ := num_iff.1 hn
 have hLl : wv.L.length = wv.S.length := by rw [hL, List.length_drop]; omega
 have hKl : wv.K.length = wv.S.length := by rw [hK]; omega
 have hd := goodB_dims hg
 refine ⟨⟨by omega, by omega, by omega, by omega, by omega, fun i hi => ?_, fun i hi => ?_, fun i hi => h6 _ (getD_mem (by omega)), fun i hi => h8 _ (getD_mem (by omega)), fun i hi => h7 _ (getD_mem (by omega))⟩, by omega⟩
 ·have := getD_mem hi
  rw [hL] at this ⊢
  exact hd _ (List.mem_of_mem_drop this)
 ·have := getD_mem (l := wv.K) (i := i) (by omega)
  rw [hK] at this ⊢
  exact okI_iff.1 (List.all_eq_true.1 hk _ this)
theorem small_K {wv : WinV} (h : wv.R) : Small2 wv.K := by
 refine ⟨by have h1 := h.k; have h2 := h.r; omega, fun x hx => ?_⟩
 obtain ⟨i, hi, rfl⟩ := List.getElem_of_mem hx
 have h3 := h.dk i (by have := h.k; omega)
 rw [List.getElem?_eq_getElem hi] at h3
 simp only [Option.getD_some] at h3
 omega
theorem small_O {wv : WinV} (h : wv.R) (hok : wv.okB = true) : Small2 wv.O := by
 refine ⟨by have h1 := wv.O_len; have h2 := h.r; omega, fun x hx => ?_⟩
 obtain ⟨i, hi, rfl⟩ := List.mem_map.1 hx
 have hi2 := List.mem_range.1 hi
 have := h.out_pos hi2 (WinV.ok_room hok hi2)
 omega
def colS (xs : List Int) (wv : WinV) : List Int := [xs[0]?.getD 0, xs[1]?.getD 0 * prodI wv.K, prodI wv.O]
def colZ (xs ks : List Int) (wv : WinV) : Int := if xs.length = 2 + wv.S.length ∧ ks.length = wv.S.length then (if wv.okB = true then (if goodB (colS xs wv) = true then 0 else 5) else 2) else 2
theorem lw18 {α : Type} {l : List α} (h : l.length = 18) : ∃ x0 x1 x2 x3 x4 x5 x6 x7 x8 x9 x10 x11 x12 x13 x14 x15 x16 x17, l = [x0, x1, x2, x3, x4, x5, x6, x7, x8, x9, x10, x11, x12, x13, x14, x15, x16, x17] := by
 match l, h with
 | [x0, x1, x2, x3, x4, x5, x6, x7, x8, x9, x10, x11, x12, x13, x14, x15, x16, x17], _ => exact ⟨x0, x1, x2, x3, x4, x5, x6, x7, x8, x9, x10, x11, x12, x13, x14, x15, x16, x17, rfl⟩
theorem lw10 {α : Type} {l : List α} (h : l.length = 10) : ∃ x0 x1 x2 x3 x4 x5 x6 x7 x8 x9, l = [x0, x1, x2, x3, x4, x5, x6, x7, x8, x9] := by
 match l, h with
 | [x0, x1, x2, x3, x4, x5, x6, x7, x8, x9], _ => exact ⟨x0, x1, x2, x3, x4, x5, x6, x7, x8, x9, rfl⟩
set_option maxRecDepth 100000 in
set_option maxHeartbeats 2000000 in
theorem cols_len (a a2 : Option Addr) (c c2 : Nat) (xs ks : List Int) (aQ aS aP aD : Option Addr) (cQ cS cP cD : Nat) (Q : List Int) (wv : WinV) (w : World) (h : Ints .i64 w w.heap.size a xs) (h2 : Ints .i64 w w.heap.size a2 ks) (hS : Ints .i64 w w.heap.size aS wv.S) (hP : Ints .i64 w w.heap.size aP wv.P) (hD : Ints .i64 w w.heap.size aD wv.D) (hn : numB false Q wv.S wv.P wv.D = true) (hK : wv.K = ks) (hl : xs.length ≠ 2 + wv.S.length) :
  Calls Try.prog 45 #[.slice a xs.length c, .slice a2 ks.length c2, .agg #[.slice aQ Q.length cQ, .slice aS wv.S.length cS, .slice aP wv.P.length cP, .slice aD wv.D.length cD]] w (RetOB 2 w) := by
 subst hK
 have hs1 : 1 ≤ wv.S.length := (num_iff.1 hn).1.1
 have hs2 : wv.S.length ≤ 2 := (num_iff.1 hn).1.2.1
 have hm := h.len
 have hm2 := h2.len
 have F1 := Lib.hid (((Fr.start (w := w) (I := [(.i64, a, xs), (.i64, a2, wv.K), (.i64, aS, wv.S), (.i64, aP, wv.P), (.i64, aD, wv.D)]) (by intro z hz; simp at hz; rcases hz with rfl | rfl | rfl | rfl | rfl; exact h; exact h2; exact hS; exact hP; exact hD)).box1 (b := w.heap.size) rfl [.slice aQ Q.length cQ, .slice aS wv.S.length cS, .slice aP wv.P.length cP, .slice aD wv.D.length cD] 28).box1 (b := w.heap.size + 1) (by simp) [.slice none 0 0, .slice none 0 0, .slice none 0 0, .slice none 0 0, .slice none 0 0, .slice none 0 0, .slice none 0 0] 64)
 simp only [List.nil_append, List.cons_append] at F1
 have hr2w : ∀ [Inhabited Unit], RowKit.wrap64 (2 + (wv.S.length : Int)) = 2 + (wv.S.length : Int) := by intro _; exact IntWalk.wrap64_in _ ⟨by omega, by omega⟩
 have d16 : ((xs.length : Int) != 2 + (wv.S.length : Int)) = true := by simp; omega
 clear h h2 hS hP hD hn hl
 go_enter Try.func45, Try.ntmps45
 go_upto_region 1 with fail
 obtain ⟨W1, hW1⟩ : ∃ W1, (w.alloc (.cells #[.slice aQ Q.length cQ, .slice aS wv.S.length cS, .slice aP wv.P.length cP, .slice aD wv.D.length cD] 28)).alloc (.cells #[.slice none 0 0, .slice none 0 0, .slice none 0 0, .slice none 0 0, .slice none 0 0, .slice none 0 0, .slice none 0 0] 64) = W1 := ⟨_, rfl⟩
 rw [hW1] at F1 ⊢
 clear hW1
 have c0_0 := F1.out.c 0 0 rfl rfl
 have c0_1 := F1.out.c 0 1 rfl rfl
 have c0_2 := F1.out.c 0 2 rfl rfl
 have c0_3 := F1.out.c 0 3 rfl rfl
 have d1_0 := F1.out.c 1 0 rfl rfl
 have d1_1 := F1.out.c 1 1 rfl rfl
 have d1_2 := F1.out.c 1 2 rfl rfl
 have d1_3 := F1.out.c 1 3 rfl rfl
 have d1_4 := F1.out.c 1 4 rfl rfl
 have d1_5 := F1.out.c 1 5 rfl rfl
 have d1_6 := F1.out.c 1 6 rfl rfl
 have df1_0 := F1.out.f 1 0 rfl rfl
 have df1_1 := F1.out.f 1 1 rfl rfl
 have df1_2 := F1.out.f 1 2 rfl rfl
 have df1_3 := F1.out.f 1 3 rfl rfl
 have df1_4 := F1.out.f 1 4 rfl rfl
 have df1_5 := F1.out.f 1 5 rfl rfl
 have df1_6 := F1.out.f 1 6 rfl rfl
 go_wp2
 have FZ := F1.out.set 1 rfl (by simp) [.slice none 0 0, .slice none 0 0, .slice none 0 0, .slice none 0 0, .slice none 0 0, .slice none 0 0, .slice none 0 0] rfl
 simp only [setL, Nat.reduceAdd, List.set_cons_zero, List.set_cons_succ] at FZ
 have y0 := FZ.c 1 0 rfl rfl
 have y1 := FZ.c 1 1 rfl rfl
 have y2 := FZ.c 1 2 rfl rfl
 have y3 := FZ.c 1 3 rfl rfl
 have y4 := FZ.c 1 4 rfl rfl
 have y5 := FZ.c 1 5 rfl rfl
 have y6 := FZ.c 1 6 rfl rfl
 refine bodyPost_ret (v := .tuple #[.agg #[.slice none 0 0, .slice none 0 0, .slice none 0 0, .slice none 0 0, .slice none 0 0, .slice none 0 0, .slice none 0 0], .slice none 0 0, .int .i64 2]) ?_ rfl ⟨(none, 0, 0), (none, 0, 0), (none, 0, 0), (none, 0, 0), (none, 0, 0), (none, 0, 0), (none, 0, 0), rfl, FZ.bel⟩
 rw [results_ctt rfl]
 go_simp
set_option maxRecDepth 100000 in
set_option maxHeartbeats 2000000 in
theorem cols_len2 (a a2 : Option Addr) (c c2 : Nat) (xs ks : List Int) (aQ aS aP aD : Option Addr) (cQ cS cP cD : Nat) (Q : List Int) (wv : WinV) (w : World) (h : Ints .i64 w w.heap.size a xs) (h2 : Ints .i64 w w.heap.size a2 ks) (hS : Ints .i64 w w.heap.size aS wv.S) (hP : Ints .i64 w w.heap.size aP wv.P) (hD : Ints .i64 w w.heap.size aD wv.D) (hn : numB false Q wv.S wv.P wv.D = true) (hK : wv.K = ks) (hl : xs.length = 2 + wv.S.length) (hl2 : ks.length ≠ wv.S.length) :
  Calls Try.prog 45 #[.slice a xs.length c, .slice a2 ks.length c2, .agg #[.slice aQ Q.length cQ, .slice aS wv.S.length cS, .slice aP wv.P.length cP, .slice aD wv.D.length cD]] w (RetOB 2 w) := by
 subst hK
 have hs1 : 1 ≤ wv.S.length := (num_iff.1 hn).1.1
 have hs2 : wv.S.length ≤ 2 := (num_iff.1 hn).1.2.1
 have hm := h.len
 have hm2 := h2.len
 have F1 := Lib.hid (((Fr.start (w := w) (I := [(.i64, a, xs), (.i64, a2, wv.K), (.i64, aS, wv.S), (.i64, aP, wv.P), (.i64, aD, wv.D)]) (by intro z hz; simp at hz; rcases hz with rfl | rfl | rfl | rfl | rfl; exact h; exact h2; exact hS; exact hP; exact hD)).box1 (b := w.heap.size) rfl [.slice aQ Q.length cQ, .slice aS wv.S.length cS, .slice aP wv.P.length cP, .slice aD wv.D.length cD] 28).box1 (b := w.heap.size + 1) (by simp) [.slice none 0 0, .slice none 0 0, .slice none 0 0, .slice none 0 0, .slice none 0 0, .slice none 0 0, .slice none 0 0] 64)
 simp only [List.nil_append, List.cons_append] at F1
 have hr2w : ∀ [Inhabited Unit], RowKit.wrap64 (2 + (wv.S.length : Int)) = 2 + (wv.S.length : Int) := by intro _; exact IntWalk.wrap64_in _ ⟨by omega, by omega⟩
 have d16 : ((xs.length : Int) != 2 + (wv.S.length : Int)) = false := by simp; omega
 have d22 : ((wv.K.length : Int) != (wv.S.length : Int)) = true := by simp; omega
 clear h h2 hS hP hD hn hl hl2
 go_enter Try.func45, Try.ntmps45
 go_upto_region 1 with fail
 obtain ⟨W1, hW1⟩ : ∃ W1, (w.alloc (.cells #[.slice aQ Q.length cQ, .slice aS wv.S.length cS, .slice aP wv.P.length cP, .slice aD wv.D.length cD] 28)).alloc (.cells #[.slice none 0 0, .slice none 0 0, .slice none 0 0, .slice none 0 0, .slice none 0 0, .slice none 0 0, .slice none 0 0] 64) = W1 := ⟨_, rfl⟩
 rw [hW1] at F1 ⊢
 clear hW1
 have c0_0 := F1.out.c 0 0 rfl rfl
 have c0_1 := F1.out.c 0 1 rfl rfl
 have c0_2 := F1.out.c 0 2 rfl rfl
 have c0_3 := F1.out.c 0 3 rfl rfl
 have d1_0 := F1.out.c 1 0 rfl rfl
 have d1_1 := F1.out.c 1 1 rfl rfl
 have d1_2 := F1.out.c 1 2 rfl rfl
 have d1_3 := F1.out.c 1 3 rfl rfl
 have d1_4 := F1.out.c 1 4 rfl rfl
 have d1_5 := F1.out.c 1 5 rfl rfl
 have d1_6 := F1.out.c 1 6 rfl rfl
 have df1_0 := F1.out.f 1 0 rfl rfl
 have df1_1 := F1.out.f 1 1 rfl rfl
 have df1_2 := F1.out.f 1 2 rfl rfl
 have df1_3 := F1.out.f 1 3 rfl rfl
 have df1_4 := F1.out.f 1 4 rfl rfl
 have df1_5 := F1.out.f 1 5 rfl rfl
 have df1_6 := F1.out.f 1 6 rfl rfl
 go_wp2
 have FZ := F1.out.set 1 rfl (by simp) [.slice none 0 0, .slice none 0 0, .slice none 0 0, .slice none 0 0, .slice none 0 0, .slice none 0 0, .slice none 0 0] rfl
 simp only [setL, Nat.reduceAdd, List.set_cons_zero, List.set_cons_succ] at FZ
 have y0 := FZ.c 1 0 rfl rfl
 have y1 := FZ.c 1 1 rfl rfl
 have y2 := FZ.c 1 2 rfl rfl
 have y3 := FZ.c 1 3 rfl rfl
 have y4 := FZ.c 1 4 rfl rfl
 have y5 := FZ.c 1 5 rfl rfl
 have y6 := FZ.c 1 6 rfl rfl
 refine bodyPost_ret (v := .tuple #[.agg #[.slice none 0 0, .slice none 0 0, .slice none 0 0, .slice none 0 0, .slice none 0 0, .slice none 0 0, .slice none 0 0], .slice none 0 0, .int .i64 2]) ?_ rfl ⟨(none, 0, 0), (none, 0, 0), (none, 0, 0), (none, 0, 0), (none, 0, 0), (none, 0, 0), (none, 0, 0), rfl, FZ.bel⟩
 rw [results_ctt rfl]
 go_simp
set_option maxRecDepth 100000 in
set_option maxHeartbeats 2000000 in
theorem cols_over (a a2 : Option Addr) (c c2 : Nat) (xs ks : List Int) (aQ aS aP aD : Option Addr) (cQ cS cP cD : Nat) (Q : List Int) (wv : WinV) (w : World) (h : Ints .i64 w w.heap.size a xs) (h2 : Ints .i64 w w.heap.size a2 ks) (hS : Ints .i64 w w.heap.size aS wv.S) (hP : Ints .i64 w w.heap.size aP wv.P) (hD : Ints .i64 w w.heap.size aD wv.D) (hn : numB false Q wv.S wv.P wv.D = true) (hK : wv.K = ks) (hl : xs.length = 2 + wv.S.length) (hl2 : ks.length = wv.S.length) (hL : wv.L = xs.drop 2) (hg : goodB xs = true) (hk1 : ks.all (okI 1) = true) (hc1 : xs.length ≤ c) (hc2 : c ≤ 9223372036854775807) (hok : wv.okB = false) :
  Calls Try.prog 45 #[.slice a xs.length c, .slice a2 ks.length c2, .agg #[.slice aQ Q.length cQ, .slice aS wv.S.length cS, .slice aP wv.P.length cP, .slice aD wv.D.length cD]] w (RetOB 2 w) := by
 subst hK
 have hs1 : 1 ≤ wv.S.length := (num_iff.1 hn).1.1
 have hs2 : wv.S.length ≤ 2 := (num_iff.1 hn).1.2.1
 have hm := h.len
 have hm2 := h2.len
 obtain ⟨hR, hr⟩ := cols_R hL rfl hg hk1 hn hl hl2
 have hr1 := hr
 have hr2 := hR.r
 have hx4 := (goodB_iff.1 hg).1
 have hlen2 : xs.length - 2 = wv.L.length := by rw [hL, List.length_drop]
 obtain ⟨b0, o0, rfl, _, _⟩ := h.cell 0 (by omega)
 have hiL := ints_drop h 2
 rw [← hL] at hiL
 have HOV := Lib.hid (fun W h0 h1 h2 h3 h4 => over_bad (some ⟨b0, o0 + 2, none⟩) a2 aQ aS aP aD (c - 2) c2 cQ cS cP cD Q wv W h0 h1 h2 h3 h4 hR hok)
 have F1 := Lib.hid (((Fr.start (w := w) (I := [(.i64, (some ⟨b0, o0, none⟩), xs), (.i64, a2, wv.K), (.i64, aS, wv.S), (.i64, aP, wv.P), (.i64, aD, wv.D), (.i64, (some ⟨b0, o0 + 2, none⟩), wv.L)]) (by intro z hz; simp at hz; rcases hz with rfl | rfl | rfl | rfl | rfl | rfl; exact h; exact h2; exact hS; exact hP; exact hD; exact hiL)).box1 (b := w.heap.size) rfl [.slice aQ Q.length cQ, .slice aS wv.S.length cS, .slice aP wv.P.length cP, .slice aD wv.D.length cD] 28).box1 (b := w.heap.size + 1) (by simp) [.slice none 0 0, .slice none 0 0, .slice none 0 0, .slice none 0 0, .slice none 0 0, .slice none 0 0, .slice none 0 0] 64)
 simp only [List.nil_append, List.cons_append] at F1
 have hr2w : ∀ [Inhabited Unit], RowKit.wrap64 (2 + (wv.S.length : Int)) = 2 + (wv.S.length : Int) := by intro _; exact IntWalk.wrap64_in _ ⟨by omega, by omega⟩
 have d16 : ((xs.length : Int) != 2 + (wv.S.length : Int)) = false := by simp; omega
 have d22 : ((wv.K.length : Int) != (wv.S.length : Int)) = false := by simp; omega
 have HLX := Lib.hid hl
 have HLK := Lib.hid hl2
 clear h h2 hS hP hD hn hl hl2 hR hok hg hk1 hiL hL hr
 have HRL := Lib.hid hr1
 have HGX := Lib.hid (show (2 : Int) ≤ (xs.length : Int) ∧ (xs.length : Int) ≤ (c : Int) ∧ ¬ c = 2 by have := HLX.out; omega)
 have HE2 := Lib.hid hlen2
 clear hlen2 hr1
 go_enter Try.func45, Try.ntmps45
 go_upto_region 1 with fail
 obtain ⟨W1, hW1⟩ : ∃ W1, (w.alloc (.cells #[.slice aQ Q.length cQ, .slice aS wv.S.length cS, .slice aP wv.P.length cP, .slice aD wv.D.length cD] 28)).alloc (.cells #[.slice none 0 0, .slice none 0 0, .slice none 0 0, .slice none 0 0, .slice none 0 0, .slice none 0 0, .slice none 0 0] 64) = W1 := ⟨_, rfl⟩
 rw [hW1] at F1 ⊢
 clear hW1
 have c0_0 := F1.out.c 0 0 rfl rfl
 have c0_1 := F1.out.c 0 1 rfl rfl
 have c0_2 := F1.out.c 0 2 rfl rfl
 have c0_3 := F1.out.c 0 3 rfl rfl
 go_upto_region 3 with fail
 clear d16 d22 hr2w c0_0 c0_1 c0_2 c0_3
 go_cut [9] from 9 to 33 (fun s9 wx => s9 = .bool false ∧ Hid (Fr w.heap.size w wx [(w.heap.size, [.slice aQ Q.length cQ, .slice aS wv.S.length cS, .slice aP wv.P.length cP, .slice aD wv.D.length cD]), (w.heap.size + 1, [.slice none 0 0, .slice none 0 0, .slice none 0 0, .slice none 0 0, .slice none 0 0, .slice none 0 0, .slice none 0 0])] [(.i64, (some ⟨b0, o0, none⟩), xs), (.i64, a2, wv.K), (.i64, aS, wv.S), (.i64, aP, wv.P), (.i64, aD, wv.D), (.i64, (some ⟨b0, o0 + 2, none⟩), wv.L)] [] []))
 case first =>
  refine wp_region_parts2 (w := W1) 8 2 (some 7) [] [(fun u _ => u = .slice (some ⟨b0, o0, none⟩) xs.length c), (fun u _ => u = .slice (some ⟨b0, o0 + 2, none⟩) wv.L.length (c - 2)), (fun u _ => u = .slice a2 wv.K.length c2), (fun u _ => u = .agg #[.slice aQ Q.length cQ, .slice aS wv.S.length cS, .slice aP wv.P.length cP, .slice aD wv.D.length cD]), (fun u _ => u = .tuple #[.agg #[.slice none 0 0, .slice none 0 0, .slice none 0 0, .slice none 0 0, .slice none 0 0, .slice none 0 0, .slice none 0 0], .bool false]), (fun u _ => u = .tuple #[.agg #[.slice none 0 0, .slice none 0 0, .slice none 0 0, .slice none 0 0, .slice none 0 0, .slice none 0 0, .slice none 0 0], .bool false]), (fun u _ => u = .agg #[.slice none 0 0, .slice none 0 0, .slice none 0 0, .slice none 0 0, .slice none 0 0, .slice none 0 0, .slice none 0 0]), (fun u _ => u = .bool false)] [some 27, some 28, some 29, some 30, some 31, some 26, some 32, some 33, none, some 9] #[true, true, true, true, true, true, true, true, false, false] #[true, true, true, true, true, true, true, false, false, false] (by kernel_rfl) rfl (by kernel_rfl) (by kernel_rfl) rfl (by kernel_rfl) (by kernel_rfl) (.cons (carries_eq _) (.cons (carries_eq _) (.cons (carries_eq _) (.cons (carries_eq _) (.cons (carries_eq _) (.cons (carries_eq _) (.cons (carries_eq _) (.cons (carries_eq _) .nil)))))))) (fun vs b hvl hvb => ?_)
  obtain ⟨x0, x1, x2, x3, x4, x5, x6, x7, x8, x9, rfl⟩ : ∃ x0 x1 x2 x3 x4 x5 x6 x7 x8 x9, vs = [x0, x1, x2, x3, x4, x5, x6, x7, x8, x9] := lw10 hvl
  clear hvl
  simp only [putAll, Act.put, List.setIfInBounds_toArray, List.set_cons_zero, List.set_cons_succ] at hvb
  subst hvb
  refine ⟨(.snoc (.snoc (.snoc (.snoc (.snoc (.snoc (.snoc (.snoc .zero (PartOb.intro (d := (some 27)) (r := fun u _ => u = .slice (some ⟨b0, o0, none⟩) xs.length c) rfl rfl rfl rfl ?po3x0)) (PartOb.intro (d := (some 28)) (r := fun u _ => u = .slice (some ⟨b0, o0 + 2, none⟩) wv.L.length (c - 2)) rfl rfl rfl rfl ?po3x1)) (PartOb.intro (d := (some 29)) (r := fun u _ => u = .slice a2 wv.K.length c2) rfl rfl rfl rfl ?po3x2)) (PartOb.intro (d := (some 30)) (r := fun u _ => u = .agg #[.slice aQ Q.length cQ, .slice aS wv.S.length cS, .slice aP wv.P.length cP, .slice aD wv.D.length cD]) rfl rfl rfl rfl ?po3x3)) (PartOb.intro (d := (some 31)) (r := fun u _ => u = .tuple #[.agg #[.slice none 0 0, .slice none 0 0, .slice none 0 0, .slice none 0 0, .slice none 0 0, .slice none 0 0, .slice none 0 0], .bool false]) rfl rfl rfl rfl ?po3x4)) (PartOb.intro (d := (some 26)) (r := fun u _ => u = .tuple #[.agg #[.slice none 0 0, .slice none 0 0, .slice none 0 0, .slice none 0 0, .slice none 0 0, .slice none 0 0, .slice none 0 0], .bool false]) rfl rfl rfl rfl ?po3x5)) (PartOb.intro (d := (some 32)) (r := fun u _ => u = .agg #[.slice none 0 0, .slice none 0 0, .slice none 0 0, .slice none 0 0, .slice none 0 0, .slice none 0 0, .slice none 0 0]) rfl rfl rfl rfl ?po3x6)) (PartOb.intro (d := (some 33)) (r := fun u _ => u = .bool false) rfl rfl rfl rfl ?po3x7)), ?pend3, ?pfl3⟩
  case po3x0 =>
   intro w1 hb1 hd KK hK
   clear hd
   simp only [Act.put, List.setIfInBounds_toArray, List.set_cons_zero, List.set_cons_succ] at hK
   go_simp
   first | exact hK.out _ _ (Below.refl _ _) rfl | (have hk := hK.out _ _ (Below.refl _ _) rfl; revert hk; go_simp)
  case po3x1 =>
   intro w1 hb1 hd KK hK
   have d0 : x0 = .slice (some ⟨b0, o0, none⟩) xs.length c := hd 0 (by kernel_rfl)
   clear hd
   subst d0
   have hxx := HE2.out
   obtain ⟨g1, g2, g3⟩ := HGX.out
   simp only [Act.put, List.setIfInBounds_toArray, List.set_cons_zero, List.set_cons_succ] at hK
   go_simp
   first | exact hK.out _ _ (Below.refl _ _) rfl | (have hk := hK.out _ _ (Below.refl _ _) rfl; revert hk; go_simp)
  case po3x2 =>
   intro w1 hb1 hd KK hK
   clear hd
   simp only [Act.put, List.setIfInBounds_toArray, List.set_cons_zero, List.set_cons_succ] at hK
   go_simp
   first | exact hK.out _ _ (Below.refl _ _) rfl | (have hk := hK.out _ _ (Below.refl _ _) rfl; revert hk; go_simp)
  case po3x3 =>
   intro w1 hb1 hd KK hK
   clear hd
   have hF := F1.out.next hb1
   have k0 := hF.c 0 0 rfl rfl
   have k1 := hF.c 0 1 rfl rfl
   have k2 := hF.c 0 2 rfl rfl
   have k3 := hF.c 0 3 rfl rfl
   simp only [Act.put, List.setIfInBounds_toArray, List.set_cons_zero, List.set_cons_succ] at hK
   go_simp
   first | exact hK.out _ _ (Below.refl _ _) rfl | (have hk := hK.out _ _ (Below.refl _ _) rfl; revert hk; go_simp)
  case po3x4 =>
   intro w1 hb1 hd KK hK
   have d1 : x1 = .slice (some ⟨b0, o0 + 2, none⟩) wv.L.length (c - 2) := hd 1 (by kernel_rfl)
   have d2 : x2 = .slice a2 wv.K.length c2 := hd 2 (by kernel_rfl)
   have d3 : x3 = .agg #[.slice aQ Q.length cQ, .slice aS wv.S.length cS, .slice aP wv.P.length cP, .slice aD wv.D.length cD] := hd 3 (by kernel_rfl)
   clear hd
   subst d1
   subst d2
   subst d3
   simp only [Act.put, List.setIfInBounds_toArray, List.set_cons_zero, List.set_cons_succ] at hK
   go_simp
   have hF := F1.out.next hb1
   go_at_call 67
   refine (HOV.out w1 (hF.lw 5 rfl) (hF.lw 1 rfl) (hF.lw 2 rfl) (hF.lw 3 rfl) (hF.lw 4 rfl)).mono ?_
   rintro e w6 ⟨rfl, hb⟩
   (try go_wp2_with fail)
   first | exact hK.out _ _ hb rfl | (have hk := hK.out _ _ hb rfl; revert hk; go_simp)
  case po3x5 =>
   intro w1 hb1 hd KK hK
   have d4 : x4 = .tuple #[.agg #[.slice none 0 0, .slice none 0 0, .slice none 0 0, .slice none 0 0, .slice none 0 0, .slice none 0 0, .slice none 0 0], .bool false] := hd 4 (by kernel_rfl)
   clear hd
   subst d4
   simp only [Act.put, List.setIfInBounds_toArray, List.set_cons_zero, List.set_cons_succ] at hK
   go_simp
   first | exact hK.out _ _ (Below.refl _ _) rfl | (have hk := hK.out _ _ (Below.refl _ _) rfl; revert hk; go_simp)
  case po3x6 =>
   intro w1 hb1 hd KK hK
   have d5 : x5 = .tuple #[.agg #[.slice none 0 0, .slice none 0 0, .slice none 0 0, .slice none 0 0, .slice none 0 0, .slice none 0 0, .slice none 0 0], .bool false] := hd 5 (by kernel_rfl)
   clear hd
   subst d5
   simp only [Act.put, List.setIfInBounds_toArray, List.set_cons_zero, List.set_cons_succ] at hK
   go_simp
   first | exact hK.out _ _ (Below.refl _ _) rfl | (have hk := hK.out _ _ (Below.refl _ _) rfl; revert hk; go_simp)
  case po3x7 =>
   intro w1 hb1 hd KK hK
   have d5 : x5 = .tuple #[.agg #[.slice none 0 0, .slice none 0 0, .slice none 0 0, .slice none 0 0, .slice none 0 0, .slice none 0 0, .slice none 0 0], .bool false] := hd 5 (by kernel_rfl)
   clear hd
   subst d5
   simp only [Act.put, List.setIfInBounds_toArray, List.set_cons_zero, List.set_cons_succ] at hK
   go_simp
   first | exact hK.out _ _ (Below.refl _ _) rfl | (have hk := hK.out _ _ (Below.refl _ _) rfl; revert hk; go_simp)
  case pend3 =>
   intro w1 hb1 hR hD
   have d0 : x0 = .slice (some ⟨b0, o0, none⟩) xs.length c := hR 0 (by decide)
   have d1 : x1 = .slice (some ⟨b0, o0 + 2, none⟩) wv.L.length (c - 2) := hR 1 (by decide)
   have d2 : x2 = .slice a2 wv.K.length c2 := hR 2 (by decide)
   have d3 : x3 = .agg #[.slice aQ Q.length cQ, .slice aS wv.S.length cS, .slice aP wv.P.length cP, .slice aD wv.D.length cD] := hR 3 (by decide)
   have d4 : x4 = .tuple #[.agg #[.slice none 0 0, .slice none 0 0, .slice none 0 0, .slice none 0 0, .slice none 0 0, .slice none 0 0, .slice none 0 0], .bool false] := hR 4 (by decide)
   have d5 : x5 = .tuple #[.agg #[.slice none 0 0, .slice none 0 0, .slice none 0 0, .slice none 0 0, .slice none 0 0, .slice none 0 0, .slice none 0 0], .bool false] := hR 5 (by decide)
   have d6 : x6 = .agg #[.slice none 0 0, .slice none 0 0, .slice none 0 0, .slice none 0 0, .slice none 0 0, .slice none 0 0, .slice none 0 0] := hR 6 (by decide)
   have d7 : x7 = .bool false := hR 7 (by decide)
   clear hR hD
   subst d0
   subst d1
   subst d2
   subst d3
   subst d4
   subst d5
   subst d6
   subst d7
   refine wpAny_ready (rs := [8]) (by kernel_rfl) (by simp) (AllReady.cons rfl (fun KK hK => ?_) AllReady.nil)
   have F6 := F1.out.next hb1
   have q0 := F6.c 1 0 rfl rfl
   have q1 := F6.c 1 1 rfl rfl
   have q2 := F6.c 1 2 rfl rfl
   have q3 := F6.c 1 3 rfl rfl
   have q4 := F6.c 1 4 rfl rfl
   have q5 := F6.c 1 5 rfl rfl
   have q6 := F6.c 1 6 rfl rfl
   have qf0 := F6.f 1 0 rfl rfl
   have qf1 := F6.f 1 1 rfl rfl
   have qf2 := F6.f 1 2 rfl rfl
   have qf3 := F6.f 1 3 rfl rfl
   have qf4 := F6.f 1 4 rfl rfl
   have qf5 := F6.f 1 5 rfl rfl
   have qf6 := F6.f 1 6 rfl rfl
   go_simp
   refine hK _ _ ?_
   clear hK KK
   try simp only [putAll, Act.put, List.setIfInBounds_toArray, List.set_cons_zero, List.set_cons_succ]
   refine wpAny_ready (rs := [9]) (by kernel_rfl) (by simp) (AllReady.cons rfl (fun KK hK => ?_) AllReady.nil)
   go_simp
   refine hK _ _ ?_
   clear hK KK
   try simp only [putAll, Act.put, List.setIfInBounds_toArray, List.set_cons_zero, List.set_cons_succ]
   refine wpAny_done (by kernel_rfl) ?_ _
   have F7 := Lib.hid (F6.set 1 rfl (by simp) [.slice none 0 0, .slice none 0 0, .slice none 0 0, .slice none 0 0, .slice none 0 0, .slice none 0 0, .slice none 0 0] rfl)
   simp only [setL, Nat.reduceAdd, List.set_cons_zero, List.set_cons_succ] at F7
   go_wp2
   go_meet
   exact ⟨rfl, F7⟩
  case pfl3 =>
   intro f hf hfn w1 hb1 hR hD
   injection hf with hf
   subst hf
   have d0 : x0 = .slice (some ⟨b0, o0, none⟩) xs.length c := hR 0 (by decide) (by decide)
   have d1 : x1 = .slice (some ⟨b0, o0 + 2, none⟩) wv.L.length (c - 2) := hR 1 (by decide) (by decide)
   have d2 : x2 = .slice a2 wv.K.length c2 := hR 2 (by decide) (by decide)
   have d3 : x3 = .agg #[.slice aQ Q.length cQ, .slice aS wv.S.length cS, .slice aP wv.P.length cP, .slice aD wv.D.length cD] := hR 3 (by decide) (by decide)
   have d4 : x4 = .tuple #[.agg #[.slice none 0 0, .slice none 0 0, .slice none 0 0, .slice none 0 0, .slice none 0 0, .slice none 0 0, .slice none 0 0], .bool false] := hR 4 (by decide) (by decide)
   have d5 : x5 = .tuple #[.agg #[.slice none 0 0, .slice none 0 0, .slice none 0 0, .slice none 0 0, .slice none 0 0, .slice none 0 0, .slice none 0 0], .bool false] := hR 5 (by decide) (by decide)
   have d6 : x6 = .agg #[.slice none 0 0, .slice none 0 0, .slice none 0 0, .slice none 0 0, .slice none 0 0, .slice none 0 0, .slice none 0 0] := hR 6 (by decide) (by decide)
   clear hR hD
   subst d0
   subst d1
   subst d2
   subst d3
   subst d4
   subst d5
   subst d6
   refine wpAny_take (i := 7) (v := .bool false) rfl (by kernel_rfl) (by kernel_rfl) (by kernel_rfl) (fun _ _ _ h => h) (.inl ⟨by rfl, fun w => by go_simp⟩) ?_
   try simp only [putAll, Act.put, List.setIfInBounds_toArray, List.set_cons_zero, List.set_cons_succ]
   refine wpAny_ready (rs := [8]) (by kernel_rfl) (by simp) (AllReady.cons rfl (fun KK hK => ?_) AllReady.nil)
   have F6 := F1.out.next hb1
   have q0 := F6.c 1 0 rfl rfl
   have q1 := F6.c 1 1 rfl rfl
   have q2 := F6.c 1 2 rfl rfl
   have q3 := F6.c 1 3 rfl rfl
   have q4 := F6.c 1 4 rfl rfl
   have q5 := F6.c 1 5 rfl rfl
   have q6 := F6.c 1 6 rfl rfl
   have qf0 := F6.f 1 0 rfl rfl
   have qf1 := F6.f 1 1 rfl rfl
   have qf2 := F6.f 1 2 rfl rfl
   have qf3 := F6.f 1 3 rfl rfl
   have qf4 := F6.f 1 4 rfl rfl
   have qf5 := F6.f 1 5 rfl rfl
   have qf6 := F6.f 1 6 rfl rfl
   go_simp
   refine hK _ _ ?_
   clear hK KK
   try simp only [putAll, Act.put, List.setIfInBounds_toArray, List.set_cons_zero, List.set_cons_succ]
   refine wpAny_ready (rs := [9]) (by kernel_rfl) (by simp) (AllReady.cons rfl (fun KK hK => ?_) AllReady.nil)
   go_simp
   refine hK _ _ ?_
   clear hK KK
   try simp only [putAll, Act.put, List.setIfInBounds_toArray, List.set_cons_zero, List.set_cons_succ]
   refine wpAny_done (by kernel_rfl) ?_ _
   have F7 := Lib.hid (F6.set 1 rfl (by simp) [.slice none 0 0, .slice none 0 0, .slice none 0 0, .slice none 0 0, .slice none 0 0, .slice none 0 0, .slice none 0 0] rfl)
   simp only [setL, Nat.reduceAdd, List.set_cons_zero, List.set_cons_succ] at F7
   go_wp2
   go_meet
   exact ⟨rfl, F7⟩
 case rest =>
  obtain ⟨rfl, F7⟩ := hcut
  clear F1
  obtain ⟨W7, rfl⟩ : ∃ x : World, x = wc := ⟨_, rfl⟩
  have d1_0 := F7.out.c 1 0 rfl rfl
  have d1_1 := F7.out.c 1 1 rfl rfl
  have d1_2 := F7.out.c 1 2 rfl rfl
  have d1_3 := F7.out.c 1 3 rfl rfl
  have d1_4 := F7.out.c 1 4 rfl rfl
  have d1_5 := F7.out.c 1 5 rfl rfl
  have d1_6 := F7.out.c 1 6 rfl rfl
  have df1_0 := F7.out.f 1 0 rfl rfl
  have df1_1 := F7.out.f 1 1 rfl rfl
  have df1_2 := F7.out.f 1 2 rfl rfl
  have df1_3 := F7.out.f 1 3 rfl rfl
  have df1_4 := F7.out.f 1 4 rfl rfl
  have df1_5 := F7.out.f 1 5 rfl rfl
  have df1_6 := F7.out.f 1 6 rfl rfl
  go_wp2
  have FZ := F7.out.set 1 rfl (by simp) [.slice none 0 0, .slice none 0 0, .slice none 0 0, .slice none 0 0, .slice none 0 0, .slice none 0 0, .slice none 0 0] rfl
  simp only [setL, Nat.reduceAdd, List.set_cons_zero, List.set_cons_succ] at FZ
  have y0 := FZ.c 1 0 rfl rfl
  have y1 := FZ.c 1 1 rfl rfl
  have y2 := FZ.c 1 2 rfl rfl
  have y3 := FZ.c 1 3 rfl rfl
  have y4 := FZ.c 1 4 rfl rfl
  have y5 := FZ.c 1 5 rfl rfl
  have y6 := FZ.c 1 6 rfl rfl
  refine bodyPost_ret (v := .tuple #[.agg #[.slice none 0 0, .slice none 0 0, .slice none 0 0, .slice none 0 0, .slice none 0 0, .slice none 0 0, .slice none 0 0], .slice none 0 0, .int .i64 2]) ?_ rfl ⟨(none, 0, 0), (none, 0, 0), (none, 0, 0), (none, 0, 0), (none, 0, 0), (none, 0, 0), (none, 0, 0), rfl, FZ.bel⟩
  rw [results_ctt rfl]
  go_simp
set_option maxRecDepth 100000 in
set_option maxHeartbeats 2000000 in
theorem cols_bud (a a2 : Option Addr) (c c2 : Nat) (xs ks : List Int) (aQ aS aP aD : Option Addr) (cQ cS cP cD : Nat) (Q : List Int) (wv : WinV) (w : World) (h : Ints .i64 w w.heap.size a xs) (h2 : Ints .i64 w w.heap.size a2 ks) (hS : Ints .i64 w w.heap.size aS wv.S) (hP : Ints .i64 w w.heap.size aP wv.P) (hD : Ints .i64 w w.heap.size aD wv.D) (hn : numB false Q wv.S wv.P wv.D = true) (hK : wv.K = ks) (hl : xs.length = 2 + wv.S.length) (hl2 : ks.length = wv.S.length) (hL : wv.L = xs.drop 2) (hg : goodB xs = true) (hk1 : ks.all (okI 1) = true) (hc1 : xs.length ≤ c) (hc2 : c ≤ 9223372036854775807) (hok : wv.okB = true) (hgs : goodB (colS xs wv) = false) :
  Calls Try.prog 45 #[.slice a xs.length c, .slice a2 ks.length c2, .agg #[.slice aQ Q.length cQ, .slice aS wv.S.length cS, .slice aP wv.P.length cP, .slice aD wv.D.length cD]] w (RetOB 5 w) := by
 subst hK
 have hs1 : 1 ≤ wv.S.length := (num_iff.1 hn).1.1
 have hs2 : wv.S.length ≤ 2 := (num_iff.1 hn).1.2.1
 have hm := h.len
 have hm2 := h2.len
 obtain ⟨hR, hr⟩ := cols_R hL rfl hg hk1 hn hl hl2
 have hr1 := hr
 have hr2 := hR.r
 have hx4 := (goodB_iff.1 hg).1
 have hlen2 : xs.length - 2 = wv.L.length := by rw [hL, List.length_drop]
 obtain ⟨b0, o0, rfl, _, _⟩ := h.cell 0 (by omega)
 have hiL := ints_drop h 2
 rw [← hL] at hiL
 have HOV := Lib.hid (fun W h0 h1 h2 h3 h4 => over_ok (some ⟨b0, o0 + 2, none⟩) a2 aQ aS aP aD (c - 2) c2 cQ cS cP cD Q wv W h0 h1 h2 h3 h4 hR hok)
 have hsO := small_O hR hok
 have hsK := small_K hR
 have hwO : ∀ x ∈ wv.O, (Lit.int .i64 x).wf = true := fun x hx => by
  have := hsO.2 x hx
  exact wf_i64_iff.2 ⟨by omega, by omega⟩
 have HWO := Lib.hid hwO
 have HOL := Lib.hid wv.O_len
 have htp := fun aO cO W h0 => winTaps_small (some ⟨b0, o0 + 2, none⟩) a2 aO aQ aS aP aD (c - 2) c2 cO cQ cS cP cD Q wv W h0 hsK
 have hpl := fun aO cO W h0 => winPlaces_small (some ⟨b0, o0 + 2, none⟩) a2 aO aQ aS aP aD (c - 2) c2 cO cQ cS cP cD Q wv W h0 hsO
 have hd0 := goodB_dims hg _ (getD_mem (show 0 < xs.length by omega))
 have hd1 := goodB_dims hg _ (getD_mem (show 1 < xs.length by omega))
 have hpK := small2_pref hsK 2
 have hpO := small2_pref hsO 2
 rw [List.take_of_length_le hsK.1] at hpK
 rw [List.take_of_length_le hsO.1] at hpO
 obtain ⟨SS, hSS⟩ : ∃ s, colS xs wv = s := ⟨_, rfl⟩
 have hSd := hSS
 unfold colS at hSd
 rw [hSS] at hgs
 obtain ⟨nA, hnA⟩ : ∃ z, xs[0]?.getD 0 = z := ⟨_, rfl⟩
 obtain ⟨nB, hnB⟩ : ∃ z, xs[1]?.getD 0 = z := ⟨_, rfl⟩
 obtain ⟨tK, htK⟩ : ∃ z, prodI wv.K = z := ⟨_, rfl⟩
 obtain ⟨tO, htO⟩ : ∃ z, prodI wv.O = z := ⟨_, rfl⟩
 rw [hnA] at hd0 hSd
 rw [hnB] at hd1 hSd
 rw [htK] at hpK hSd htp
 rw [htO] at hpO hSd hpl
 have hb1 := Int.mul_nonneg (show 0 ≤ nB by omega) hpK.1
 have hb2 := Int.mul_le_mul hd1.2 hpK.2 hpK.1 (by omega)
 obtain ⟨nT, hnT⟩ : ∃ z, nB * tK = z := ⟨_, rfl⟩
 rw [hnT] at hb1 hb2 hSd
 have hSwf : ∀ x ∈ SS, (Lit.int .i64 x).wf = true := fun x hx => by
  rw [← hSd] at hx
  simp only [List.mem_cons, List.not_mem_nil, or_false] at hx
  rcases hx with rfl | rfl | rfl <;> exact wf_i64_iff.2 ⟨by omega, by omega⟩
 have HSWF := Lib.hid hSwf
 have HSD := Lib.hid hSd
 have hsh := fun a9 c9 W h9 => shaped_any a9 c9 SS W h9 false hgs
 simp only [if_true, if_false, Bool.false_eq_true, reduceIte] at hsh
 rw [show SS.length = 3 by rw [← hSd]; rfl] at hsh
 have HSH := Lib.hid hsh
 have HTP := Lib.hid htp
 have HPL := Lib.hid hpl
 have HNA := Lib.hid hnA
 have HNB := Lib.hid hnB
 have HMUL := Lib.hid (show IntKind.i64.wrap (nB * tK) = nT by rw [hnT]; exact IntWalk.i64_in _ (by omega))
 clear hSS hgs hSd hSwf hsh htp hpl hnA hnB htK htO hb1 hb2 hnT hd0 hd1 hpK hpO hsO hsK hwO
 have F1 := Lib.hid (((Fr.start (w := w) (I := [(.i64, (some ⟨b0, o0, none⟩), xs), (.i64, a2, wv.K), (.i64, aS, wv.S), (.i64, aP, wv.P), (.i64, aD, wv.D), (.i64, (some ⟨b0, o0 + 2, none⟩), wv.L)]) (by intro z hz; simp at hz; rcases hz with rfl | rfl | rfl | rfl | rfl | rfl; exact h; exact h2; exact hS; exact hP; exact hD; exact hiL)).box1 (b := w.heap.size) rfl [.slice aQ Q.length cQ, .slice aS wv.S.length cS, .slice aP wv.P.length cP, .slice aD wv.D.length cD] 28).box1 (b := w.heap.size + 1) (by simp) [.slice none 0 0, .slice none 0 0, .slice none 0 0, .slice none 0 0, .slice none 0 0, .slice none 0 0, .slice none 0 0] 64)
 simp only [List.nil_append, List.cons_append] at F1
 have hr2w : ∀ [Inhabited Unit], RowKit.wrap64 (2 + (wv.S.length : Int)) = 2 + (wv.S.length : Int) := by intro _; exact IntWalk.wrap64_in _ ⟨by omega, by omega⟩
 have d16 : ((xs.length : Int) != 2 + (wv.S.length : Int)) = false := by simp; omega
 have d22 : ((wv.K.length : Int) != (wv.S.length : Int)) = false := by simp; omega
 have HLX := Lib.hid hl
 have HLK := Lib.hid hl2
 clear h h2 hS hP hD hn hl hl2 hR hok hg hk1 hiL hL hr
 have HRL := Lib.hid hr1
 have HGX := Lib.hid (show (2 : Int) ≤ (xs.length : Int) ∧ (xs.length : Int) ≤ (c : Int) ∧ ¬ c = 2 by have := HLX.out; omega)
 have HE2 := Lib.hid hlen2
 clear hlen2 hr1
 go_enter Try.func45, Try.ntmps45
 go_upto_region 1 with fail
 obtain ⟨W1, hW1⟩ : ∃ W1, (w.alloc (.cells #[.slice aQ Q.length cQ, .slice aS wv.S.length cS, .slice aP wv.P.length cP, .slice aD wv.D.length cD] 28)).alloc (.cells #[.slice none 0 0, .slice none 0 0, .slice none 0 0, .slice none 0 0, .slice none 0 0, .slice none 0 0, .slice none 0 0] 64) = W1 := ⟨_, rfl⟩
 rw [hW1] at F1 ⊢
 clear hW1
 have c0_0 := F1.out.c 0 0 rfl rfl
 have c0_1 := F1.out.c 0 1 rfl rfl
 have c0_2 := F1.out.c 0 2 rfl rfl
 have c0_3 := F1.out.c 0 3 rfl rfl
 go_upto_region 3 with fail
 clear d16 d22 hr2w c0_0 c0_1 c0_2 c0_3
 go_cut [9] from 9 to 33 (fun s9 wx => s9 = .bool true ∧ ∃ aO cO, Hid (Fr w.heap.size w wx [(w.heap.size, [.slice aQ Q.length cQ, .slice aS wv.S.length cS, .slice aP wv.P.length cP, .slice aD wv.D.length cD]), (w.heap.size + 1, [.slice (some ⟨b0, o0 + 2, none⟩) wv.L.length (c - 2), .slice a2 wv.K.length c2, .slice aO wv.O.length cO, .slice aQ Q.length cQ, .slice aS wv.S.length cS, .slice aP wv.P.length cP, .slice aD wv.D.length cD])] [(.i64, (some ⟨b0, o0, none⟩), xs), (.i64, a2, wv.K), (.i64, aS, wv.S), (.i64, aP, wv.P), (.i64, aD, wv.D), (.i64, (some ⟨b0, o0 + 2, none⟩), wv.L)] [⟨3, .slice aO wv.O.length cO, wv.O.length, wv.O.map (Value.int .i64)⟩] []))
 case first =>
  refine wp_region_parts2 (w := W1) 8 2 (some 7) [] [(fun u _ => u = .slice (some ⟨b0, o0, none⟩) xs.length c), (fun u _ => u = .slice (some ⟨b0, o0 + 2, none⟩) wv.L.length (c - 2)), (fun u _ => u = .slice a2 wv.K.length c2), (fun u _ => u = .agg #[.slice aQ Q.length cQ, .slice aS wv.S.length cS, .slice aP wv.P.length cP, .slice aD wv.D.length cD]), ((HasRow W1.heap.size wv.O.length (wv.O.map (Value.int .i64)) (fun aO cO => .tuple #[.agg #[.slice (some ⟨b0, o0 + 2, none⟩) wv.L.length (c - 2), .slice a2 wv.K.length c2, .slice aO wv.O.length cO, .slice aQ Q.length cQ, .slice aS wv.S.length cS, .slice aP wv.P.length cP, .slice aD wv.D.length cD], .bool true]))), ((HasRow W1.heap.size wv.O.length (wv.O.map (Value.int .i64)) (fun aO cO => .tuple #[.agg #[.slice (some ⟨b0, o0 + 2, none⟩) wv.L.length (c - 2), .slice a2 wv.K.length c2, .slice aO wv.O.length cO, .slice aQ Q.length cQ, .slice aS wv.S.length cS, .slice aP wv.P.length cP, .slice aD wv.D.length cD], .bool true]))), ((HasRow W1.heap.size wv.O.length (wv.O.map (Value.int .i64)) (fun aO cO => .agg #[.slice (some ⟨b0, o0 + 2, none⟩) wv.L.length (c - 2), .slice a2 wv.K.length c2, .slice aO wv.O.length cO, .slice aQ Q.length cQ, .slice aS wv.S.length cS, .slice aP wv.P.length cP, .slice aD wv.D.length cD]))), (fun u _ => u = .bool true)] [some 27, some 28, some 29, some 30, some 31, some 26, some 32, some 33, none, some 9] #[true, true, true, true, true, true, true, true, false, false] #[true, true, true, true, true, true, true, false, false, false] (by kernel_rfl) rfl (by kernel_rfl) (by kernel_rfl) rfl (by kernel_rfl) (by kernel_rfl) (.cons (carries_eq _) (.cons (carries_eq _) (.cons (carries_eq _) (.cons (carries_eq _) (.cons (hasRow_carries _ _ _ _) (.cons (hasRow_carries _ _ _ _) (.cons (hasRow_carries _ _ _ _) (.cons (carries_eq _) .nil)))))))) (fun vs b hvl hvb => ?_)
  obtain ⟨x0, x1, x2, x3, x4, x5, x6, x7, x8, x9, rfl⟩ : ∃ x0 x1 x2 x3 x4 x5 x6 x7 x8 x9, vs = [x0, x1, x2, x3, x4, x5, x6, x7, x8, x9] := lw10 hvl
  clear hvl
  simp only [putAll, Act.put, List.setIfInBounds_toArray, List.set_cons_zero, List.set_cons_succ] at hvb
  subst hvb
  refine ⟨(.snoc (.snoc (.snoc (.snoc (.snoc (.snoc (.snoc (.snoc .zero (PartOb.intro (d := (some 27)) (r := fun u _ => u = .slice (some ⟨b0, o0, none⟩) xs.length c) rfl rfl rfl rfl ?po3x0)) (PartOb.intro (d := (some 28)) (r := fun u _ => u = .slice (some ⟨b0, o0 + 2, none⟩) wv.L.length (c - 2)) rfl rfl rfl rfl ?po3x1)) (PartOb.intro (d := (some 29)) (r := fun u _ => u = .slice a2 wv.K.length c2) rfl rfl rfl rfl ?po3x2)) (PartOb.intro (d := (some 30)) (r := fun u _ => u = .agg #[.slice aQ Q.length cQ, .slice aS wv.S.length cS, .slice aP wv.P.length cP, .slice aD wv.D.length cD]) rfl rfl rfl rfl ?po3x3)) (PartOb.intro (d := (some 31)) (r := (HasRow W1.heap.size wv.O.length (wv.O.map (Value.int .i64)) (fun aO cO => .tuple #[.agg #[.slice (some ⟨b0, o0 + 2, none⟩) wv.L.length (c - 2), .slice a2 wv.K.length c2, .slice aO wv.O.length cO, .slice aQ Q.length cQ, .slice aS wv.S.length cS, .slice aP wv.P.length cP, .slice aD wv.D.length cD], .bool true]))) rfl rfl rfl rfl ?po3x4)) (PartOb.intro (d := (some 26)) (r := (HasRow W1.heap.size wv.O.length (wv.O.map (Value.int .i64)) (fun aO cO => .tuple #[.agg #[.slice (some ⟨b0, o0 + 2, none⟩) wv.L.length (c - 2), .slice a2 wv.K.length c2, .slice aO wv.O.length cO, .slice aQ Q.length cQ, .slice aS wv.S.length cS, .slice aP wv.P.length cP, .slice aD wv.D.length cD], .bool true]))) rfl rfl rfl rfl ?po3x5)) (PartOb.intro (d := (some 32)) (r := (HasRow W1.heap.size wv.O.length (wv.O.map (Value.int .i64)) (fun aO cO => .agg #[.slice (some ⟨b0, o0 + 2, none⟩) wv.L.length (c - 2), .slice a2 wv.K.length c2, .slice aO wv.O.length cO, .slice aQ Q.length cQ, .slice aS wv.S.length cS, .slice aP wv.P.length cP, .slice aD wv.D.length cD]))) rfl rfl rfl rfl ?po3x6)) (PartOb.intro (d := (some 33)) (r := fun u _ => u = .bool true) rfl rfl rfl rfl ?po3x7)), ?pend3, ?pfl3⟩
  case po3x0 =>
   intro w1 hb1 hd KK hK
   clear hd
   simp only [Act.put, List.setIfInBounds_toArray, List.set_cons_zero, List.set_cons_succ] at hK
   go_simp
   first | exact hK.out _ _ (Below.refl _ _) rfl | (have hk := hK.out _ _ (Below.refl _ _) rfl; revert hk; go_simp)
  case po3x1 =>
   intro w1 hb1 hd KK hK
   have d0 : x0 = .slice (some ⟨b0, o0, none⟩) xs.length c := hd 0 (by kernel_rfl)
   clear hd
   subst d0
   have hxx := HE2.out
   obtain ⟨g1, g2, g3⟩ := HGX.out
   simp only [Act.put, List.setIfInBounds_toArray, List.set_cons_zero, List.set_cons_succ] at hK
   go_simp
   first | exact hK.out _ _ (Below.refl _ _) rfl | (have hk := hK.out _ _ (Below.refl _ _) rfl; revert hk; go_simp)
  case po3x2 =>
   intro w1 hb1 hd KK hK
   clear hd
   simp only [Act.put, List.setIfInBounds_toArray, List.set_cons_zero, List.set_cons_succ] at hK
   go_simp
   first | exact hK.out _ _ (Below.refl _ _) rfl | (have hk := hK.out _ _ (Below.refl _ _) rfl; revert hk; go_simp)
  case po3x3 =>
   intro w1 hb1 hd KK hK
   clear hd
   have hF := F1.out.next hb1
   have k0 := hF.c 0 0 rfl rfl
   have k1 := hF.c 0 1 rfl rfl
   have k2 := hF.c 0 2 rfl rfl
   have k3 := hF.c 0 3 rfl rfl
   simp only [Act.put, List.setIfInBounds_toArray, List.set_cons_zero, List.set_cons_succ] at hK
   go_simp
   first | exact hK.out _ _ (Below.refl _ _) rfl | (have hk := hK.out _ _ (Below.refl _ _) rfl; revert hk; go_simp)
  case po3x4 =>
   intro w1 hb1 hd KK hK
   have d1 : x1 = .slice (some ⟨b0, o0 + 2, none⟩) wv.L.length (c - 2) := hd 1 (by kernel_rfl)
   have d2 : x2 = .slice a2 wv.K.length c2 := hd 2 (by kernel_rfl)
   have d3 : x3 = .agg #[.slice aQ Q.length cQ, .slice aS wv.S.length cS, .slice aP wv.P.length cP, .slice aD wv.D.length cD] := hd 3 (by kernel_rfl)
   clear hd
   subst d1
   subst d2
   subst d3
   simp only [Act.put, List.setIfInBounds_toArray, List.set_cons_zero, List.set_cons_succ] at hK
   go_simp
   have hF := F1.out.next hb1
   go_at_call 67
   refine (HOV.out w1 (hF.lw 5 rfl) (hF.lw 1 rfl) (hF.lw 2 rfl) (hF.lw 3 rfl) (hF.lw 4 rfl)).mono ?_
   rintro e w6 ⟨aO, cO, rfl, hf⟩
   (try go_wp2_with fail)
   first | exact hK.out _ _ hf.bel ⟨aO, cO, rfl, own_mono (hf.r 0 rfl) hb1.size⟩ | (have hk := hK.out _ _ hf.bel ⟨aO, cO, rfl, own_mono (hf.r 0 rfl) hb1.size⟩; revert hk; go_simp)
  case po3x5 =>
   intro w1 hb1 hd KK hK
   have d4 : (HasRow W1.heap.size wv.O.length (wv.O.map (Value.int .i64)) (fun aO cO => .tuple #[.agg #[.slice (some ⟨b0, o0 + 2, none⟩) wv.L.length (c - 2), .slice a2 wv.K.length c2, .slice aO wv.O.length cO, .slice aQ Q.length cQ, .slice aS wv.S.length cS, .slice aP wv.P.length cP, .slice aD wv.D.length cD], .bool true])) x4 w1 := hd 4 (by kernel_rfl)
   clear hd
   obtain ⟨a4_, c4_, rfl, hO4⟩ := d4
   simp only [Act.put, List.setIfInBounds_toArray, List.set_cons_zero, List.set_cons_succ] at hK
   go_simp
   first | exact hK.out _ _ (Below.refl _ _) ⟨_, _, rfl, hO4⟩ | (have hk := hK.out _ _ (Below.refl _ _) ⟨_, _, rfl, hO4⟩; revert hk; go_simp)
  case po3x6 =>
   intro w1 hb1 hd KK hK
   have d5 : (HasRow W1.heap.size wv.O.length (wv.O.map (Value.int .i64)) (fun aO cO => .tuple #[.agg #[.slice (some ⟨b0, o0 + 2, none⟩) wv.L.length (c - 2), .slice a2 wv.K.length c2, .slice aO wv.O.length cO, .slice aQ Q.length cQ, .slice aS wv.S.length cS, .slice aP wv.P.length cP, .slice aD wv.D.length cD], .bool true])) x5 w1 := hd 5 (by kernel_rfl)
   clear hd
   obtain ⟨a5_, c5_, rfl, hO5⟩ := d5
   simp only [Act.put, List.setIfInBounds_toArray, List.set_cons_zero, List.set_cons_succ] at hK
   go_simp
   first | exact hK.out _ _ (Below.refl _ _) ⟨_, _, rfl, hO5⟩ | (have hk := hK.out _ _ (Below.refl _ _) ⟨_, _, rfl, hO5⟩; revert hk; go_simp)
  case po3x7 =>
   intro w1 hb1 hd KK hK
   have d5 : (HasRow W1.heap.size wv.O.length (wv.O.map (Value.int .i64)) (fun aO cO => .tuple #[.agg #[.slice (some ⟨b0, o0 + 2, none⟩) wv.L.length (c - 2), .slice a2 wv.K.length c2, .slice aO wv.O.length cO, .slice aQ Q.length cQ, .slice aS wv.S.length cS, .slice aP wv.P.length cP, .slice aD wv.D.length cD], .bool true])) x5 w1 := hd 5 (by kernel_rfl)
   clear hd
   obtain ⟨a5_, c5_, rfl, hO5⟩ := d5
   simp only [Act.put, List.setIfInBounds_toArray, List.set_cons_zero, List.set_cons_succ] at hK
   go_simp
   first | exact hK.out _ _ (Below.refl _ _) rfl | (have hk := hK.out _ _ (Below.refl _ _) rfl; revert hk; go_simp)
  case pend3 =>
   intro w1 hb1 hR hD
   have d0 : x0 = .slice (some ⟨b0, o0, none⟩) xs.length c := hR 0 (by decide)
   have d1 : x1 = .slice (some ⟨b0, o0 + 2, none⟩) wv.L.length (c - 2) := hR 1 (by decide)
   have d2 : x2 = .slice a2 wv.K.length c2 := hR 2 (by decide)
   have d3 : x3 = .agg #[.slice aQ Q.length cQ, .slice aS wv.S.length cS, .slice aP wv.P.length cP, .slice aD wv.D.length cD] := hR 3 (by decide)
   have d4 : (HasRow W1.heap.size wv.O.length (wv.O.map (Value.int .i64)) (fun aO cO => .tuple #[.agg #[.slice (some ⟨b0, o0 + 2, none⟩) wv.L.length (c - 2), .slice a2 wv.K.length c2, .slice aO wv.O.length cO, .slice aQ Q.length cQ, .slice aS wv.S.length cS, .slice aP wv.P.length cP, .slice aD wv.D.length cD], .bool true])) x4 w1 := hR 4 (by decide)
   have d5 : (HasRow W1.heap.size wv.O.length (wv.O.map (Value.int .i64)) (fun aO cO => .tuple #[.agg #[.slice (some ⟨b0, o0 + 2, none⟩) wv.L.length (c - 2), .slice a2 wv.K.length c2, .slice aO wv.O.length cO, .slice aQ Q.length cQ, .slice aS wv.S.length cS, .slice aP wv.P.length cP, .slice aD wv.D.length cD], .bool true])) x5 w1 := hR 5 (by decide)
   have d6 : (HasRow W1.heap.size wv.O.length (wv.O.map (Value.int .i64)) (fun aO cO => .agg #[.slice (some ⟨b0, o0 + 2, none⟩) wv.L.length (c - 2), .slice a2 wv.K.length c2, .slice aO wv.O.length cO, .slice aQ Q.length cQ, .slice aS wv.S.length cS, .slice aP wv.P.length cP, .slice aD wv.D.length cD])) x6 w1 := hR 6 (by decide)
   have d7 : x7 = .bool true := hR 7 (by decide)
   clear hR hD
   subst d0
   subst d1
   subst d2
   subst d3
   obtain ⟨a4_, c4_, rfl, hO4⟩ := d4
   obtain ⟨a5_, c5_, rfl, hO5⟩ := d5
   obtain ⟨a6_, c6_, rfl, hO6⟩ := d6
   subst d7
   refine wpAny_ready (rs := [8]) (by kernel_rfl) (by simp) (AllReady.cons rfl (fun KK hK => ?_) AllReady.nil)
   have F6 := F1.out.addO hb1 hO6
   simp only [List.nil_append, List.cons_append] at F6
   have q0 := F6.c 1 0 rfl rfl
   have q1 := F6.c 1 1 rfl rfl
   have q2 := F6.c 1 2 rfl rfl
   have q3 := F6.c 1 3 rfl rfl
   have q4 := F6.c 1 4 rfl rfl
   have q5 := F6.c 1 5 rfl rfl
   have q6 := F6.c 1 6 rfl rfl
   have qf0 := F6.f 1 0 rfl rfl
   have qf1 := F6.f 1 1 rfl rfl
   have qf2 := F6.f 1 2 rfl rfl
   have qf3 := F6.f 1 3 rfl rfl
   have qf4 := F6.f 1 4 rfl rfl
   have qf5 := F6.f 1 5 rfl rfl
   have qf6 := F6.f 1 6 rfl rfl
   go_simp
   refine hK _ _ ?_
   clear hK KK
   try simp only [putAll, Act.put, List.setIfInBounds_toArray, List.set_cons_zero, List.set_cons_succ]
   refine wpAny_ready (rs := [9]) (by kernel_rfl) (by simp) (AllReady.cons rfl (fun KK hK => ?_) AllReady.nil)
   go_simp
   refine hK _ _ ?_
   clear hK KK
   try simp only [putAll, Act.put, List.setIfInBounds_toArray, List.set_cons_zero, List.set_cons_succ]
   refine wpAny_done (by kernel_rfl) ?_ _
   have F7 := Lib.hid (F6.set 1 rfl (by simp) [.slice (some ⟨b0, o0 + 2, none⟩) wv.L.length (c - 2), .slice a2 wv.K.length c2, .slice a6_ wv.O.length c6_, .slice aQ Q.length cQ, .slice aS wv.S.length cS, .slice aP wv.P.length cP, .slice aD wv.D.length cD] rfl)
   simp only [setL, Nat.reduceAdd, List.set_cons_zero, List.set_cons_succ] at F7
   go_wp2
   go_meet
   exact ⟨rfl, a6_, c6_, F7⟩
  case pfl3 =>
   intro f hf hfn w1 hb1 hR hD
   injection hf with hf
   subst hf
   have d0 : x0 = .slice (some ⟨b0, o0, none⟩) xs.length c := hR 0 (by decide) (by decide)
   have d1 : x1 = .slice (some ⟨b0, o0 + 2, none⟩) wv.L.length (c - 2) := hR 1 (by decide) (by decide)
   have d2 : x2 = .slice a2 wv.K.length c2 := hR 2 (by decide) (by decide)
   have d3 : x3 = .agg #[.slice aQ Q.length cQ, .slice aS wv.S.length cS, .slice aP wv.P.length cP, .slice aD wv.D.length cD] := hR 3 (by decide) (by decide)
   have d4 : (HasRow W1.heap.size wv.O.length (wv.O.map (Value.int .i64)) (fun aO cO => .tuple #[.agg #[.slice (some ⟨b0, o0 + 2, none⟩) wv.L.length (c - 2), .slice a2 wv.K.length c2, .slice aO wv.O.length cO, .slice aQ Q.length cQ, .slice aS wv.S.length cS, .slice aP wv.P.length cP, .slice aD wv.D.length cD], .bool true])) x4 w1 := hR 4 (by decide) (by decide)
   have d5 : (HasRow W1.heap.size wv.O.length (wv.O.map (Value.int .i64)) (fun aO cO => .tuple #[.agg #[.slice (some ⟨b0, o0 + 2, none⟩) wv.L.length (c - 2), .slice a2 wv.K.length c2, .slice aO wv.O.length cO, .slice aQ Q.length cQ, .slice aS wv.S.length cS, .slice aP wv.P.length cP, .slice aD wv.D.length cD], .bool true])) x5 w1 := hR 5 (by decide) (by decide)
   have d6 : (HasRow W1.heap.size wv.O.length (wv.O.map (Value.int .i64)) (fun aO cO => .agg #[.slice (some ⟨b0, o0 + 2, none⟩) wv.L.length (c - 2), .slice a2 wv.K.length c2, .slice aO wv.O.length cO, .slice aQ Q.length cQ, .slice aS wv.S.length cS, .slice aP wv.P.length cP, .slice aD wv.D.length cD])) x6 w1 := hR 6 (by decide) (by decide)
   clear hR hD
   subst d0
   subst d1
   subst d2
   subst d3
   obtain ⟨a4_, c4_, rfl, hO4⟩ := d4
   obtain ⟨a5_, c5_, rfl, hO5⟩ := d5
   obtain ⟨a6_, c6_, rfl, hO6⟩ := d6
   refine wpAny_take (i := 7) (v := .bool true) rfl (by kernel_rfl) (by kernel_rfl) (by kernel_rfl) (fun _ _ _ h => h) (.inl ⟨by rfl, fun w => by go_simp⟩) ?_
   try simp only [putAll, Act.put, List.setIfInBounds_toArray, List.set_cons_zero, List.set_cons_succ]
   refine wpAny_ready (rs := [8]) (by kernel_rfl) (by simp) (AllReady.cons rfl (fun KK hK => ?_) AllReady.nil)
   have F6 := F1.out.addO hb1 hO6
   simp only [List.nil_append, List.cons_append] at F6
   have q0 := F6.c 1 0 rfl rfl
   have q1 := F6.c 1 1 rfl rfl
   have q2 := F6.c 1 2 rfl rfl
   have q3 := F6.c 1 3 rfl rfl
   have q4 := F6.c 1 4 rfl rfl
   have q5 := F6.c 1 5 rfl rfl
   have q6 := F6.c 1 6 rfl rfl
   have qf0 := F6.f 1 0 rfl rfl
   have qf1 := F6.f 1 1 rfl rfl
   have qf2 := F6.f 1 2 rfl rfl
   have qf3 := F6.f 1 3 rfl rfl
   have qf4 := F6.f 1 4 rfl rfl
   have qf5 := F6.f 1 5 rfl rfl
   have qf6 := F6.f 1 6 rfl rfl
   go_simp
   refine hK _ _ ?_
   clear hK KK
   try simp only [putAll, Act.put, List.setIfInBounds_toArray, List.set_cons_zero, List.set_cons_succ]
   refine wpAny_ready (rs := [9]) (by kernel_rfl) (by simp) (AllReady.cons rfl (fun KK hK => ?_) AllReady.nil)
   go_simp
   refine hK _ _ ?_
   clear hK KK
   try simp only [putAll, Act.put, List.setIfInBounds_toArray, List.set_cons_zero, List.set_cons_succ]
   refine wpAny_done (by kernel_rfl) ?_ _
   have F7 := Lib.hid (F6.set 1 rfl (by simp) [.slice (some ⟨b0, o0 + 2, none⟩) wv.L.length (c - 2), .slice a2 wv.K.length c2, .slice a6_ wv.O.length c6_, .slice aQ Q.length cQ, .slice aS wv.S.length cS, .slice aP wv.P.length cP, .slice aD wv.D.length cD] rfl)
   simp only [setL, Nat.reduceAdd, List.set_cons_zero, List.set_cons_succ] at F7
   go_wp2
   go_meet
   exact ⟨rfl, a6_, c6_, F7⟩
 case rest =>
  obtain ⟨rfl, aO, cO, F7⟩ := hcut
  clear F1
  obtain ⟨W7, rfl⟩ : ∃ x : World, x = wc := ⟨_, rfl⟩
  go_upto_region 6 with fail
  have hl := HLX.out
  have hk0 : 0 < xs.length := by omega
  have hk0i : (0 : Int) < (xs.length : Int) := by omega
  have hk1 : 1 < xs.length := by have := HRL.out; have := HE2.out; omega
  have hk1i : (1 : Int) < (xs.length : Int) := by omega
  have hkn : ¬ xs = [] := by intro h; rw [h] at hk0; exact absurd hk0 (by simp)
  clear hl
  refine wp_region_parts2 (w := W7) 18 0 none [] [(fun u _ => u = .slice (some ⟨b0, o0, none⟩) xs.length c), (fun u _ => u = .pointer (some ⟨b0, o0, none⟩)), (fun u _ => u = .int .i64 nA), (fun u _ => u = .slice (some ⟨b0, o0, none⟩) xs.length c), (fun u _ => u = .pointer (some ⟨b0, o0 + 1, none⟩)), (fun u _ => u = .int .i64 nB), (fun u _ => u = .agg #[.slice (some ⟨b0, o0 + 2, none⟩) wv.L.length (c - 2), .slice a2 wv.K.length c2, .slice aO wv.O.length cO, .slice aQ Q.length cQ, .slice aS wv.S.length cS, .slice aP wv.P.length cP, .slice aD wv.D.length cD]), (fun u _ => u = .int .i64 tK), (fun u _ => u = .int .i64 nT), (fun u _ => u = .agg #[.slice (some ⟨b0, o0 + 2, none⟩) wv.L.length (c - 2), .slice a2 wv.K.length c2, .slice aO wv.O.length cO, .slice aQ Q.length cQ, .slice aS wv.S.length cS, .slice aP wv.P.length cP, .slice aD wv.D.length cD]), (fun u _ => u = .int .i64 tO), ((IsRow W7.heap.size 3 3 (SS.map (Value.int .i64)))), (fun u _ => u = .tuple #[.slice none 0 0, .int .i64 5]), (fun u _ => u = .tuple #[.slice none 0 0, .int .i64 5]), (fun u _ => u = .slice none 0 0), (fun u _ => u = .int .i64 5), (fun u _ => u = .slice none 0 0), (fun u _ => u = .int .i64 5)] [some 38, some 39, some 40, some 41, some 42, some 43, some 44, some 45, some 46, some 47, some 48, some 49, some 50, some 37, some 51, some 52, some 7, some 8] #[true, true, true, true, true, true, true, true, true, true, true, true, true, true, true, true, true, true] #[true, true, true, true, true, true, true, true, true, true, true, true, true, true, true, true, true, true] (by kernel_rfl) rfl (by kernel_rfl) (by kernel_rfl) rfl (by kernel_rfl) (by kernel_rfl) (.cons (carries_eq _) (.cons (carries_eq _) (.cons (carries_eq _) (.cons (carries_eq _) (.cons (carries_eq _) (.cons (carries_eq _) (.cons (carries_eq _) (.cons (carries_eq _) (.cons (carries_eq _) (.cons (carries_eq _) (.cons (carries_eq _) (.cons (isRow_carries _ _ _ _) (.cons (carries_eq _) (.cons (carries_eq _) (.cons (carries_eq _) (.cons (carries_eq _) (.cons (carries_eq _) (.cons (carries_eq _) .nil)))))))))))))))))) (fun vs b hvl hvb => ?_)
  obtain ⟨x0, x1, x2, x3, x4, x5, x6, x7, x8, x9, x10, x11, x12, x13, x14, x15, x16, x17, rfl⟩ : ∃ x0 x1 x2 x3 x4 x5 x6 x7 x8 x9 x10 x11 x12 x13 x14 x15 x16 x17, vs = [x0, x1, x2, x3, x4, x5, x6, x7, x8, x9, x10, x11, x12, x13, x14, x15, x16, x17] := lw18 hvl
  clear hvl
  simp only [putAll, Act.put, List.setIfInBounds_toArray, List.set_cons_zero, List.set_cons_succ] at hvb
  subst hvb
  refine ⟨(.snoc (.snoc (.snoc (.snoc (.snoc (.snoc (.snoc (.snoc (.snoc (.snoc (.snoc (.snoc (.snoc (.snoc (.snoc (.snoc (.snoc (.snoc .zero (PartOb.intro (d := (some 38)) (r := fun u _ => u = .slice (some ⟨b0, o0, none⟩) xs.length c) rfl rfl rfl rfl ?po6x0)) (PartOb.intro (d := (some 39)) (r := fun u _ => u = .pointer (some ⟨b0, o0, none⟩)) rfl rfl rfl rfl ?po6x1)) (PartOb.intro (d := (some 40)) (r := fun u _ => u = .int .i64 nA) rfl rfl rfl rfl ?po6x2)) (PartOb.intro (d := (some 41)) (r := fun u _ => u = .slice (some ⟨b0, o0, none⟩) xs.length c) rfl rfl rfl rfl ?po6x3)) (PartOb.intro (d := (some 42)) (r := fun u _ => u = .pointer (some ⟨b0, o0 + 1, none⟩)) rfl rfl rfl rfl ?po6x4)) (PartOb.intro (d := (some 43)) (r := fun u _ => u = .int .i64 nB) rfl rfl rfl rfl ?po6x5)) (PartOb.intro (d := (some 44)) (r := fun u _ => u = .agg #[.slice (some ⟨b0, o0 + 2, none⟩) wv.L.length (c - 2), .slice a2 wv.K.length c2, .slice aO wv.O.length cO, .slice aQ Q.length cQ, .slice aS wv.S.length cS, .slice aP wv.P.length cP, .slice aD wv.D.length cD]) rfl rfl rfl rfl ?po6x6)) (PartOb.intro (d := (some 45)) (r := fun u _ => u = .int .i64 tK) rfl rfl rfl rfl ?po6x7)) (PartOb.intro (d := (some 46)) (r := fun u _ => u = .int .i64 nT) rfl rfl rfl rfl ?po6x8)) (PartOb.intro (d := (some 47)) (r := fun u _ => u = .agg #[.slice (some ⟨b0, o0 + 2, none⟩) wv.L.length (c - 2), .slice a2 wv.K.length c2, .slice aO wv.O.length cO, .slice aQ Q.length cQ, .slice aS wv.S.length cS, .slice aP wv.P.length cP, .slice aD wv.D.length cD]) rfl rfl rfl rfl ?po6x9)) (PartOb.intro (d := (some 48)) (r := fun u _ => u = .int .i64 tO) rfl rfl rfl rfl ?po6x10)) (PartOb.intro (d := (some 49)) (r := (IsRow W7.heap.size 3 3 (SS.map (Value.int .i64)))) rfl rfl rfl rfl ?po6x11)) (PartOb.intro (d := (some 50)) (r := fun u _ => u = .tuple #[.slice none 0 0, .int .i64 5]) rfl rfl rfl rfl ?po6x12)) (PartOb.intro (d := (some 37)) (r := fun u _ => u = .tuple #[.slice none 0 0, .int .i64 5]) rfl rfl rfl rfl ?po6x13)) (PartOb.intro (d := (some 51)) (r := fun u _ => u = .slice none 0 0) rfl rfl rfl rfl ?po6x14)) (PartOb.intro (d := (some 52)) (r := fun u _ => u = .int .i64 5) rfl rfl rfl rfl ?po6x15)) (PartOb.intro (d := (some 7)) (r := fun u _ => u = .slice none 0 0) rfl rfl rfl rfl ?po6x16)) (PartOb.intro (d := (some 8)) (r := fun u _ => u = .int .i64 5) rfl rfl rfl rfl ?po6x17)), ?pend6, ?pfl6⟩
  case po6x0 =>
   intro w1 hb1 hd KK hK
   clear hd
   simp only [Act.put, List.setIfInBounds_toArray, List.set_cons_zero, List.set_cons_succ] at hK
   go_simp
   first | exact hK.out _ _ (Below.refl _ _) rfl | (have hk := hK.out _ _ (Below.refl _ _) rfl; revert hk; go_simp)
  case po6x1 =>
   intro w1 hb1 hd KK hK
   have d0 : x0 = .slice (some ⟨b0, o0, none⟩) xs.length c := hd 0 (by kernel_rfl)
   clear hd
   subst d0
   simp only [Act.put, List.setIfInBounds_toArray, List.set_cons_zero, List.set_cons_succ] at hK
   go_simp
   first | exact hK.out _ _ (Below.refl _ _) rfl | (have hk := hK.out _ _ (Below.refl _ _) rfl; revert hk; go_simp)
  case po6x2 =>
   intro w1 hb1 hd KK hK
   have d1 : x1 = .pointer (some ⟨b0, o0, none⟩) := hd 1 (by kernel_rfl)
   clear hd
   subst d1
   have hF := F7.out.next hb1
   obtain ⟨b9, o9, he, _, hcx⟩ := (hF.l 0 rfl).cell 0 hk0
   cases he
   rw [HNA.out] at hcx
   rw [Nat.add_zero] at hcx
   simp only [Act.put, List.setIfInBounds_toArray, List.set_cons_zero, List.set_cons_succ] at hK
   go_simp
   first | exact hK.out _ _ (Below.refl _ _) rfl | (have hk := hK.out _ _ (Below.refl _ _) rfl; revert hk; go_simp)
  case po6x3 =>
   intro w1 hb1 hd KK hK
   clear hd
   simp only [Act.put, List.setIfInBounds_toArray, List.set_cons_zero, List.set_cons_succ] at hK
   go_simp
   first | exact hK.out _ _ (Below.refl _ _) rfl | (have hk := hK.out _ _ (Below.refl _ _) rfl; revert hk; go_simp)
  case po6x4 =>
   intro w1 hb1 hd KK hK
   have d3 : x3 = .slice (some ⟨b0, o0, none⟩) xs.length c := hd 3 (by kernel_rfl)
   clear hd
   subst d3
   simp only [Act.put, List.setIfInBounds_toArray, List.set_cons_zero, List.set_cons_succ] at hK
   go_simp
   first | exact hK.out _ _ (Below.refl _ _) rfl | (have hk := hK.out _ _ (Below.refl _ _) rfl; revert hk; go_simp)
  case po6x5 =>
   intro w1 hb1 hd KK hK
   have d4 : x4 = .pointer (some ⟨b0, o0 + 1, none⟩) := hd 4 (by kernel_rfl)
   clear hd
   subst d4
   have hF := F7.out.next hb1
   obtain ⟨b9, o9, he, _, hcx⟩ := (hF.l 0 rfl).cell 1 hk1
   cases he
   rw [HNB.out] at hcx
   simp only [Act.put, List.setIfInBounds_toArray, List.set_cons_zero, List.set_cons_succ] at hK
   go_simp
   first | exact hK.out _ _ (Below.refl _ _) rfl | (have hk := hK.out _ _ (Below.refl _ _) rfl; revert hk; go_simp)
  case po6x6 =>
   intro w1 hb1 hd KK hK
   clear hd
   have hF := F7.out.next hb1
   have k0 := hF.c 1 0 rfl rfl
   have k1 := hF.c 1 1 rfl rfl
   have k2 := hF.c 1 2 rfl rfl
   have k3 := hF.c 1 3 rfl rfl
   have k4 := hF.c 1 4 rfl rfl
   have k5 := hF.c 1 5 rfl rfl
   have k6 := hF.c 1 6 rfl rfl
   simp only [Act.put, List.setIfInBounds_toArray, List.set_cons_zero, List.set_cons_succ] at hK
   go_simp
   first | exact hK.out _ _ (Below.refl _ _) rfl | (have hk := hK.out _ _ (Below.refl _ _) rfl; revert hk; go_simp)
  case po6x7 =>
   intro w1 hb1 hd KK hK
   have d6 : x6 = .agg #[.slice (some ⟨b0, o0 + 2, none⟩) wv.L.length (c - 2), .slice a2 wv.K.length c2, .slice aO wv.O.length cO, .slice aQ Q.length cQ, .slice aS wv.S.length cS, .slice aP wv.P.length cP, .slice aD wv.D.length cD] := hd 6 (by kernel_rfl)
   clear hd
   subst d6
   have hF := F7.out.next hb1
   simp only [Act.put, List.setIfInBounds_toArray, List.set_cons_zero, List.set_cons_succ] at hK
   go_simp
   go_at_call 41
   refine (HTP.out _ _ w1 (hF.lw 1 rfl)).mono ?_
   rintro e w2 ⟨rfl, hb⟩
   (try go_wp2_with fail)
   first | exact hK.out _ _ hb rfl | (have hk := hK.out _ _ hb rfl; revert hk; go_simp)
  case po6x8 =>
   intro w1 hb1 hd KK hK
   have d5 : x5 = .int .i64 nB := hd 5 (by kernel_rfl)
   have d7 : x7 = .int .i64 tK := hd 7 (by kernel_rfl)
   clear hd
   subst d5
   subst d7
   have dx := HMUL.out
   simp only [Act.put, List.setIfInBounds_toArray, List.set_cons_zero, List.set_cons_succ] at hK
   go_simp
   first | exact hK.out _ _ (Below.refl _ _) rfl | (have hk := hK.out _ _ (Below.refl _ _) rfl; revert hk; go_simp)
  case po6x9 =>
   intro w1 hb1 hd KK hK
   clear hd
   have hF := F7.out.next hb1
   have k0 := hF.c 1 0 rfl rfl
   have k1 := hF.c 1 1 rfl rfl
   have k2 := hF.c 1 2 rfl rfl
   have k3 := hF.c 1 3 rfl rfl
   have k4 := hF.c 1 4 rfl rfl
   have k5 := hF.c 1 5 rfl rfl
   have k6 := hF.c 1 6 rfl rfl
   simp only [Act.put, List.setIfInBounds_toArray, List.set_cons_zero, List.set_cons_succ] at hK
   go_simp
   first | exact hK.out _ _ (Below.refl _ _) rfl | (have hk := hK.out _ _ (Below.refl _ _) rfl; revert hk; go_simp)
  case po6x10 =>
   intro w1 hb1 hd KK hK
   have d7 : x7 = .int .i64 tK := hd 7 (by kernel_rfl)
   have d9 : x9 = .agg #[.slice (some ⟨b0, o0 + 2, none⟩) wv.L.length (c - 2), .slice a2 wv.K.length c2, .slice aO wv.O.length cO, .slice aQ Q.length cQ, .slice aS wv.S.length cS, .slice aP wv.P.length cP, .slice aD wv.D.length cD] := hd 9 (by kernel_rfl)
   clear hd
   subst d7
   subst d9
   have hF := F7.out.next hb1
   simp only [Act.put, List.setIfInBounds_toArray, List.set_cons_zero, List.set_cons_succ] at hK
   go_simp
   go_at_call 37
   refine (HPL.out _ _ w1 (hF.li 0 (k := .i64) (xs := wv.O) rfl HWO.out)).mono ?_
   rintro e w2 ⟨rfl, hb⟩
   (try go_wp2_with fail)
   first | exact hK.out _ _ hb rfl | (have hk := hK.out _ _ hb rfl; revert hk; go_simp)
  case po6x11 =>
   intro w1 hb1 hd KK hK
   have d2 : x2 = .int .i64 nA := hd 2 (by kernel_rfl)
   have d8 : x8 = .int .i64 nT := hd 8 (by kernel_rfl)
   have d10 : x10 = .int .i64 tO := hd 10 (by kernel_rfl)
   clear hd
   subst d2
   subst d8
   subst d10
   simp only [Act.put, List.setIfInBounds_toArray, List.set_cons_zero, List.set_cons_succ] at hK
   go_simp
   first | exact hK.out _ _ ((Below.refl _ _).alloc (Nat.le_refl _) _) ⟨_, _, rfl, (by rw [← HSD.out]; exact World.ownsRow_lit (base := W7.heap.size) (size := 1) (e := 3) w1 #[.int .i64 nA, .int .i64 nT, .int .i64 tO] 3 hb1.size (by decide) rfl)⟩ | (have hk := hK.out _ _ ((Below.refl _ _).alloc (Nat.le_refl _) _) ⟨_, _, rfl, (by rw [← HSD.out]; exact World.ownsRow_lit (base := W7.heap.size) (size := 1) (e := 3) w1 #[.int .i64 nA, .int .i64 nT, .int .i64 tO] 3 hb1.size (by decide) rfl)⟩; revert hk; go_simp)
  case po6x12 =>
   intro w1 hb1 hd KK hK
   have d10 : x10 = .int .i64 tO := hd 10 (by kernel_rfl)
   have d11 : (IsRow W7.heap.size 3 3 (SS.map (Value.int .i64))) x11 w1 := hd 11 (by kernel_rfl)
   clear hd
   subst d10
   obtain ⟨a11_, c11_, rfl, hO11⟩ := d11
   simp only [Act.put, List.setIfInBounds_toArray, List.set_cons_zero, List.set_cons_succ] at hK
   go_simp
   go_at_call 68
   refine (HSH.out a11_ c11_ w1 (ints_row hO11 (by rw [← HSD.out]; rfl) HSWF.out)).mono ?_
   rintro e w' ⟨rfl, rfl⟩
   (try go_wp2_with fail)
   first | exact hK.out _ _ (Below.refl _ _) rfl | (have hk := hK.out _ _ (Below.refl _ _) rfl; revert hk; go_simp)
  case po6x13 =>
   intro w1 hb1 hd KK hK
   have d12 : x12 = .tuple #[.slice none 0 0, .int .i64 5] := hd 12 (by kernel_rfl)
   clear hd
   subst d12
   simp only [Act.put, List.setIfInBounds_toArray, List.set_cons_zero, List.set_cons_succ] at hK
   go_simp
   first | exact hK.out _ _ (Below.refl _ _) rfl | (have hk := hK.out _ _ (Below.refl _ _) rfl; revert hk; go_simp)
  case po6x14 =>
   intro w1 hb1 hd KK hK
   have d13 : x13 = .tuple #[.slice none 0 0, .int .i64 5] := hd 13 (by kernel_rfl)
   clear hd
   subst d13
   simp only [Act.put, List.setIfInBounds_toArray, List.set_cons_zero, List.set_cons_succ] at hK
   go_simp
   first | exact hK.out _ _ (Below.refl _ _) rfl | (have hk := hK.out _ _ (Below.refl _ _) rfl; revert hk; go_simp)
  case po6x15 =>
   intro w1 hb1 hd KK hK
   have d13 : x13 = .tuple #[.slice none 0 0, .int .i64 5] := hd 13 (by kernel_rfl)
   clear hd
   subst d13
   simp only [Act.put, List.setIfInBounds_toArray, List.set_cons_zero, List.set_cons_succ] at hK
   go_simp
   first | exact hK.out _ _ (Below.refl _ _) rfl | (have hk := hK.out _ _ (Below.refl _ _) rfl; revert hk; go_simp)
  case po6x16 =>
   intro w1 hb1 hd KK hK
   have d0 : x0 = .slice (some ⟨b0, o0, none⟩) xs.length c := hd 0 (by kernel_rfl)
   have d1 : x1 = .pointer (some ⟨b0, o0, none⟩) := hd 1 (by kernel_rfl)
   have d2 : x2 = .int .i64 nA := hd 2 (by kernel_rfl)
   have d3 : x3 = .slice (some ⟨b0, o0, none⟩) xs.length c := hd 3 (by kernel_rfl)
   have d4 : x4 = .pointer (some ⟨b0, o0 + 1, none⟩) := hd 4 (by kernel_rfl)
   have d5 : x5 = .int .i64 nB := hd 5 (by kernel_rfl)
   have d6 : x6 = .agg #[.slice (some ⟨b0, o0 + 2, none⟩) wv.L.length (c - 2), .slice a2 wv.K.length c2, .slice aO wv.O.length cO, .slice aQ Q.length cQ, .slice aS wv.S.length cS, .slice aP wv.P.length cP, .slice aD wv.D.length cD] := hd 6 (by kernel_rfl)
   have d7 : x7 = .int .i64 tK := hd 7 (by kernel_rfl)
   have d8 : x8 = .int .i64 nT := hd 8 (by kernel_rfl)
   have d9 : x9 = .agg #[.slice (some ⟨b0, o0 + 2, none⟩) wv.L.length (c - 2), .slice a2 wv.K.length c2, .slice aO wv.O.length cO, .slice aQ Q.length cQ, .slice aS wv.S.length cS, .slice aP wv.P.length cP, .slice aD wv.D.length cD] := hd 9 (by kernel_rfl)
   have d10 : x10 = .int .i64 tO := hd 10 (by kernel_rfl)
   have d11 : (IsRow W7.heap.size 3 3 (SS.map (Value.int .i64))) x11 w1 := hd 11 (by kernel_rfl)
   have d12 : x12 = .tuple #[.slice none 0 0, .int .i64 5] := hd 12 (by kernel_rfl)
   have d13 : x13 = .tuple #[.slice none 0 0, .int .i64 5] := hd 13 (by kernel_rfl)
   have d14 : x14 = .slice none 0 0 := hd 14 (by kernel_rfl)
   clear hd
   subst d0
   subst d1
   subst d2
   subst d3
   subst d4
   subst d5
   subst d6
   subst d7
   subst d8
   subst d9
   subst d10
   obtain ⟨a11_, c11_, rfl, hO11⟩ := d11
   subst d12
   subst d13
   subst d14
   simp only [Act.put, List.setIfInBounds_toArray, List.set_cons_zero, List.set_cons_succ] at hK
   go_simp
   first | exact hK.out _ _ (Below.refl _ _) rfl | (have hk := hK.out _ _ (Below.refl _ _) rfl; revert hk; go_simp)
  case po6x17 =>
   intro w1 hb1 hd KK hK
   have d0 : x0 = .slice (some ⟨b0, o0, none⟩) xs.length c := hd 0 (by kernel_rfl)
   have d1 : x1 = .pointer (some ⟨b0, o0, none⟩) := hd 1 (by kernel_rfl)
   have d2 : x2 = .int .i64 nA := hd 2 (by kernel_rfl)
   have d3 : x3 = .slice (some ⟨b0, o0, none⟩) xs.length c := hd 3 (by kernel_rfl)
   have d4 : x4 = .pointer (some ⟨b0, o0 + 1, none⟩) := hd 4 (by kernel_rfl)
   have d5 : x5 = .int .i64 nB := hd 5 (by kernel_rfl)
   have d6 : x6 = .agg #[.slice (some ⟨b0, o0 + 2, none⟩) wv.L.length (c - 2), .slice a2 wv.K.length c2, .slice aO wv.O.length cO, .slice aQ Q.length cQ, .slice aS wv.S.length cS, .slice aP wv.P.length cP, .slice aD wv.D.length cD] := hd 6 (by kernel_rfl)
   have d7 : x7 = .int .i64 tK := hd 7 (by kernel_rfl)
   have d8 : x8 = .int .i64 nT := hd 8 (by kernel_rfl)
   have d9 : x9 = .agg #[.slice (some ⟨b0, o0 + 2, none⟩) wv.L.length (c - 2), .slice a2 wv.K.length c2, .slice aO wv.O.length cO, .slice aQ Q.length cQ, .slice aS wv.S.length cS, .slice aP wv.P.length cP, .slice aD wv.D.length cD] := hd 9 (by kernel_rfl)
   have d10 : x10 = .int .i64 tO := hd 10 (by kernel_rfl)
   have d11 : (IsRow W7.heap.size 3 3 (SS.map (Value.int .i64))) x11 w1 := hd 11 (by kernel_rfl)
   have d12 : x12 = .tuple #[.slice none 0 0, .int .i64 5] := hd 12 (by kernel_rfl)
   have d13 : x13 = .tuple #[.slice none 0 0, .int .i64 5] := hd 13 (by kernel_rfl)
   have d14 : x14 = .slice none 0 0 := hd 14 (by kernel_rfl)
   have d15 : x15 = .int .i64 5 := hd 15 (by kernel_rfl)
   have d16 : x16 = .slice none 0 0 := hd 16 (by kernel_rfl)
   clear hd
   subst d0
   subst d1
   subst d2
   subst d3
   subst d4
   subst d5
   subst d6
   subst d7
   subst d8
   subst d9
   subst d10
   obtain ⟨a11_, c11_, rfl, hO11⟩ := d11
   subst d12
   subst d13
   subst d14
   subst d15
   subst d16
   simp only [Act.put, List.setIfInBounds_toArray, List.set_cons_zero, List.set_cons_succ] at hK
   go_simp
   first | exact hK.out _ _ (Below.refl _ _) rfl | (have hk := hK.out _ _ (Below.refl _ _) rfl; revert hk; go_simp)
  case pfl6 => (intro f hf; cases hf)
  case pend6 =>
  intro w1 hb1 hR hD
  have d0 : x0 = .slice (some ⟨b0, o0, none⟩) xs.length c := hR 0 (by decide)
  have d1 : x1 = .pointer (some ⟨b0, o0, none⟩) := hR 1 (by decide)
  have d2 : x2 = .int .i64 nA := hR 2 (by decide)
  have d3 : x3 = .slice (some ⟨b0, o0, none⟩) xs.length c := hR 3 (by decide)
  have d4 : x4 = .pointer (some ⟨b0, o0 + 1, none⟩) := hR 4 (by decide)
  have d5 : x5 = .int .i64 nB := hR 5 (by decide)
  have d6 : x6 = .agg #[.slice (some ⟨b0, o0 + 2, none⟩) wv.L.length (c - 2), .slice a2 wv.K.length c2, .slice aO wv.O.length cO, .slice aQ Q.length cQ, .slice aS wv.S.length cS, .slice aP wv.P.length cP, .slice aD wv.D.length cD] := hR 6 (by decide)
  have d7 : x7 = .int .i64 tK := hR 7 (by decide)
  have d8 : x8 = .int .i64 nT := hR 8 (by decide)
  have d9 : x9 = .agg #[.slice (some ⟨b0, o0 + 2, none⟩) wv.L.length (c - 2), .slice a2 wv.K.length c2, .slice aO wv.O.length cO, .slice aQ Q.length cQ, .slice aS wv.S.length cS, .slice aP wv.P.length cP, .slice aD wv.D.length cD] := hR 9 (by decide)
  have d10 : x10 = .int .i64 tO := hR 10 (by decide)
  have d11 : (IsRow W7.heap.size 3 3 (SS.map (Value.int .i64))) x11 w1 := hR 11 (by decide)
  have d12 : x12 = .tuple #[.slice none 0 0, .int .i64 5] := hR 12 (by decide)
  have d13 : x13 = .tuple #[.slice none 0 0, .int .i64 5] := hR 13 (by decide)
  have d14 : x14 = .slice none 0 0 := hR 14 (by decide)
  have d15 : x15 = .int .i64 5 := hR 15 (by decide)
  have d16 : x16 = .slice none 0 0 := hR 16 (by decide)
  have d17 : x17 = .int .i64 5 := hR 17 (by decide)
  clear hR hD
  subst d0
  subst d1
  subst d2
  subst d3
  subst d4
  subst d5
  subst d6
  subst d7
  subst d8
  subst d9
  subst d10
  obtain ⟨a11_, c11_, rfl, hO11⟩ := d11
  subst d12
  subst d13
  subst d14
  subst d15
  subst d16
  subst d17
  refine wpAny_done (by kernel_rfl) ?_ _
  have F9 := Lib.hid (F7.out.next hb1)
  clear F7 hb1
  obtain ⟨V9, rfl⟩ : ∃ x : World, x = w1 := ⟨_, rfl⟩
  have d1_0 := F9.out.c 1 0 rfl rfl
  have d1_1 := F9.out.c 1 1 rfl rfl
  have d1_2 := F9.out.c 1 2 rfl rfl
  have d1_3 := F9.out.c 1 3 rfl rfl
  have d1_4 := F9.out.c 1 4 rfl rfl
  have d1_5 := F9.out.c 1 5 rfl rfl
  have d1_6 := F9.out.c 1 6 rfl rfl
  have df1_0 := F9.out.f 1 0 rfl rfl
  have df1_1 := F9.out.f 1 1 rfl rfl
  have df1_2 := F9.out.f 1 2 rfl rfl
  have df1_3 := F9.out.f 1 3 rfl rfl
  have df1_4 := F9.out.f 1 4 rfl rfl
  have df1_5 := F9.out.f 1 5 rfl rfl
  have df1_6 := F9.out.f 1 6 rfl rfl
  go_wp2
  have FZ := F9.out.set 1 rfl (by simp) [.slice (some ⟨b0, o0 + 2, none⟩) wv.L.length (c - 2), .slice a2 wv.K.length c2, .slice aO wv.O.length cO, .slice aQ Q.length cQ, .slice aS wv.S.length cS, .slice aP wv.P.length cP, .slice aD wv.D.length cD] rfl
  simp only [setL, Nat.reduceAdd, List.set_cons_zero, List.set_cons_succ] at FZ
  have y0 := FZ.c 1 0 rfl rfl
  have y1 := FZ.c 1 1 rfl rfl
  have y2 := FZ.c 1 2 rfl rfl
  have y3 := FZ.c 1 3 rfl rfl
  have y4 := FZ.c 1 4 rfl rfl
  have y5 := FZ.c 1 5 rfl rfl
  have y6 := FZ.c 1 6 rfl rfl
  refine bodyPost_ret (v := .tuple #[.agg #[.slice (some ⟨b0, o0 + 2, none⟩) wv.L.length (c - 2), .slice a2 wv.K.length c2, .slice aO wv.O.length cO, .slice aQ Q.length cQ, .slice aS wv.S.length cS, .slice aP wv.P.length cP, .slice aD wv.D.length cD], .slice none 0 0, .int .i64 5]) ?_ rfl ⟨((some ⟨b0, o0 + 2, none⟩), wv.L.length, (c - 2)), (a2, wv.K.length, c2), (aO, wv.O.length, cO), (aQ, Q.length, cQ), (aS, wv.S.length, cS), (aP, wv.P.length, cP), (aD, wv.D.length, cD), rfl, FZ.bel⟩
  rw [results_ctt rfl]
  go_simp
set_option maxRecDepth 100000 in
set_option maxHeartbeats 2000000 in
theorem cols_ok (a a2 : Option Addr) (c c2 : Nat) (xs ks : List Int) (aQ aS aP aD : Option Addr) (cQ cS cP cD : Nat) (Q : List Int) (wv : WinV) (w : World) (h : Ints .i64 w w.heap.size a xs) (h2 : Ints .i64 w w.heap.size a2 ks) (hS : Ints .i64 w w.heap.size aS wv.S) (hP : Ints .i64 w w.heap.size aP wv.P) (hD : Ints .i64 w w.heap.size aD wv.D) (hn : numB false Q wv.S wv.P wv.D = true) (hK : wv.K = ks) (hl : xs.length = 2 + wv.S.length) (hl2 : ks.length = wv.S.length) (hL : wv.L = xs.drop 2) (hg : goodB xs = true) (hk1 : ks.all (okI 1) = true) (hc1 : xs.length ≤ c) (hc2 : c ≤ 9223372036854775807) (hok : wv.okB = true) (hgs : goodB (colS xs wv) = true) :
  Calls Try.prog 45 #[.slice a xs.length c, .slice a2 ks.length c2, .agg #[.slice aQ Q.length cQ, .slice aS wv.S.length cS, .slice aP wv.P.length cP, .slice aD wv.D.length cD]] w (fun e w' => ∃ aL cL aO cO as_ cs_, e = .returned (.tuple #[.agg #[.slice aL wv.L.length cL, .slice a2 wv.K.length c2, .slice aO wv.O.length cO, .slice aQ Q.length cQ, .slice aS wv.S.length cS, .slice aP wv.P.length cP, .slice aD wv.D.length cD], .slice as_ 3 cs_, .int .i64 0]) ∧ (∃ b0 o0, a = some ⟨b0, o0, none⟩ ∧ aL = some ⟨b0, o0 + 2, none⟩) ∧ Fr w.heap.size w w' [] [] [⟨3, .slice aO wv.O.length cO, wv.O.length, wv.O.map (Value.int .i64)⟩, ⟨3, .slice as_ 3 cs_, 3, (colS xs wv).map (Value.int .i64)⟩] []) := by
 subst hK
 have hs1 : 1 ≤ wv.S.length := (num_iff.1 hn).1.1
 have hs2 : wv.S.length ≤ 2 := (num_iff.1 hn).1.2.1
 have hm := h.len
 have hm2 := h2.len
 obtain ⟨hR, hr⟩ := cols_R hL rfl hg hk1 hn hl hl2
 have hr1 := hr
 have hr2 := hR.r
 have hx4 := (goodB_iff.1 hg).1
 have hlen2 : xs.length - 2 = wv.L.length := by rw [hL, List.length_drop]
 obtain ⟨b0, o0, rfl, _, _⟩ := h.cell 0 (by omega)
 have hiL := ints_drop h 2
 rw [← hL] at hiL
 have HOV := Lib.hid (fun W h0 h1 h2 h3 h4 => over_ok (some ⟨b0, o0 + 2, none⟩) a2 aQ aS aP aD (c - 2) c2 cQ cS cP cD Q wv W h0 h1 h2 h3 h4 hR hok)
 have hsO := small_O hR hok
 have hsK := small_K hR
 have hwO : ∀ x ∈ wv.O, (Lit.int .i64 x).wf = true := fun x hx => by
  have := hsO.2 x hx
  exact wf_i64_iff.2 ⟨by omega, by omega⟩
 have HWO := Lib.hid hwO
 have HOL := Lib.hid wv.O_len
 have htp := fun aO cO W h0 => winTaps_small (some ⟨b0, o0 + 2, none⟩) a2 aO aQ aS aP aD (c - 2) c2 cO cQ cS cP cD Q wv W h0 hsK
 have hpl := fun aO cO W h0 => winPlaces_small (some ⟨b0, o0 + 2, none⟩) a2 aO aQ aS aP aD (c - 2) c2 cO cQ cS cP cD Q wv W h0 hsO
 have hd0 := goodB_dims hg _ (getD_mem (show 0 < xs.length by omega))
 have hd1 := goodB_dims hg _ (getD_mem (show 1 < xs.length by omega))
 have hpK := small2_pref hsK 2
 have hpO := small2_pref hsO 2
 rw [List.take_of_length_le hsK.1] at hpK
 rw [List.take_of_length_le hsO.1] at hpO
 obtain ⟨SS, hSS⟩ : ∃ s, colS xs wv = s := ⟨_, rfl⟩
 have hSd := hSS
 unfold colS at hSd
 rw [hSS] at hgs ⊢
 obtain ⟨nA, hnA⟩ : ∃ z, xs[0]?.getD 0 = z := ⟨_, rfl⟩
 obtain ⟨nB, hnB⟩ : ∃ z, xs[1]?.getD 0 = z := ⟨_, rfl⟩
 obtain ⟨tK, htK⟩ : ∃ z, prodI wv.K = z := ⟨_, rfl⟩
 obtain ⟨tO, htO⟩ : ∃ z, prodI wv.O = z := ⟨_, rfl⟩
 rw [hnA] at hd0 hSd
 rw [hnB] at hd1 hSd
 rw [htK] at hpK hSd htp
 rw [htO] at hpO hSd hpl
 have hb1 := Int.mul_nonneg (show 0 ≤ nB by omega) hpK.1
 have hb2 := Int.mul_le_mul hd1.2 hpK.2 hpK.1 (by omega)
 obtain ⟨nT, hnT⟩ : ∃ z, nB * tK = z := ⟨_, rfl⟩
 rw [hnT] at hb1 hb2 hSd
 have hSwf : ∀ x ∈ SS, (Lit.int .i64 x).wf = true := fun x hx => by
  rw [← hSd] at hx
  simp only [List.mem_cons, List.not_mem_nil, or_false] at hx
  rcases hx with rfl | rfl | rfl <;> exact wf_i64_iff.2 ⟨by omega, by omega⟩
 have HSWF := Lib.hid hSwf
 have HSD := Lib.hid hSd
 have hsh := fun a9 c9 W h9 => shaped_any a9 c9 SS W h9 true hgs
 simp only [if_true, if_false, Bool.false_eq_true, reduceIte] at hsh
 rw [show SS.length = 3 by rw [← hSd]; rfl] at hsh
 have HSH := Lib.hid hsh
 have HTP := Lib.hid htp
 have HPL := Lib.hid hpl
 have HNA := Lib.hid hnA
 have HNB := Lib.hid hnB
 have HMUL := Lib.hid (show IntKind.i64.wrap (nB * tK) = nT by rw [hnT]; exact IntWalk.i64_in _ (by omega))
 clear hSS hgs hSd hSwf hsh htp hpl hnA hnB htK htO hb1 hb2 hnT hd0 hd1 hpK hpO hsO hsK hwO
 have F1 := Lib.hid (((Fr.start (w := w) (I := [(.i64, (some ⟨b0, o0, none⟩), xs), (.i64, a2, wv.K), (.i64, aS, wv.S), (.i64, aP, wv.P), (.i64, aD, wv.D), (.i64, (some ⟨b0, o0 + 2, none⟩), wv.L)]) (by intro z hz; simp at hz; rcases hz with rfl | rfl | rfl | rfl | rfl | rfl; exact h; exact h2; exact hS; exact hP; exact hD; exact hiL)).box1 (b := w.heap.size) rfl [.slice aQ Q.length cQ, .slice aS wv.S.length cS, .slice aP wv.P.length cP, .slice aD wv.D.length cD] 28).box1 (b := w.heap.size + 1) (by simp) [.slice none 0 0, .slice none 0 0, .slice none 0 0, .slice none 0 0, .slice none 0 0, .slice none 0 0, .slice none 0 0] 64)
 simp only [List.nil_append, List.cons_append] at F1
 have hr2w : ∀ [Inhabited Unit], RowKit.wrap64 (2 + (wv.S.length : Int)) = 2 + (wv.S.length : Int) := by intro _; exact IntWalk.wrap64_in _ ⟨by omega, by omega⟩
 have d16 : ((xs.length : Int) != 2 + (wv.S.length : Int)) = false := by simp; omega
 have d22 : ((wv.K.length : Int) != (wv.S.length : Int)) = false := by simp; omega
 have HLX := Lib.hid hl
 have HLK := Lib.hid hl2
 clear h h2 hS hP hD hn hl hl2 hR hok hg hk1 hiL hL hr
 have HRL := Lib.hid hr1
 have HGX := Lib.hid (show (2 : Int) ≤ (xs.length : Int) ∧ (xs.length : Int) ≤ (c : Int) ∧ ¬ c = 2 by have := HLX.out; omega)
 have HE2 := Lib.hid hlen2
 clear hlen2 hr1
 go_enter Try.func45, Try.ntmps45
 go_upto_region 1 with fail
 obtain ⟨W1, hW1⟩ : ∃ W1, (w.alloc (.cells #[.slice aQ Q.length cQ, .slice aS wv.S.length cS, .slice aP wv.P.length cP, .slice aD wv.D.length cD] 28)).alloc (.cells #[.slice none 0 0, .slice none 0 0, .slice none 0 0, .slice none 0 0, .slice none 0 0, .slice none 0 0, .slice none 0 0] 64) = W1 := ⟨_, rfl⟩
 rw [hW1] at F1 ⊢
 clear hW1
 have c0_0 := F1.out.c 0 0 rfl rfl
 have c0_1 := F1.out.c 0 1 rfl rfl
 have c0_2 := F1.out.c 0 2 rfl rfl
 have c0_3 := F1.out.c 0 3 rfl rfl
 go_upto_region 3 with fail
 clear d16 d22 hr2w c0_0 c0_1 c0_2 c0_3
 go_cut [9] from 9 to 33 (fun s9 wx => s9 = .bool true ∧ ∃ aO cO, Hid (Fr w.heap.size w wx [(w.heap.size, [.slice aQ Q.length cQ, .slice aS wv.S.length cS, .slice aP wv.P.length cP, .slice aD wv.D.length cD]), (w.heap.size + 1, [.slice (some ⟨b0, o0 + 2, none⟩) wv.L.length (c - 2), .slice a2 wv.K.length c2, .slice aO wv.O.length cO, .slice aQ Q.length cQ, .slice aS wv.S.length cS, .slice aP wv.P.length cP, .slice aD wv.D.length cD])] [(.i64, (some ⟨b0, o0, none⟩), xs), (.i64, a2, wv.K), (.i64, aS, wv.S), (.i64, aP, wv.P), (.i64, aD, wv.D), (.i64, (some ⟨b0, o0 + 2, none⟩), wv.L)] [⟨3, .slice aO wv.O.length cO, wv.O.length, wv.O.map (Value.int .i64)⟩] []))
 case first =>
  refine wp_region_parts2 (w := W1) 8 2 (some 7) [] [(fun u _ => u = .slice (some ⟨b0, o0, none⟩) xs.length c), (fun u _ => u = .slice (some ⟨b0, o0 + 2, none⟩) wv.L.length (c - 2)), (fun u _ => u = .slice a2 wv.K.length c2), (fun u _ => u = .agg #[.slice aQ Q.length cQ, .slice aS wv.S.length cS, .slice aP wv.P.length cP, .slice aD wv.D.length cD]), ((HasRow W1.heap.size wv.O.length (wv.O.map (Value.int .i64)) (fun aO cO => .tuple #[.agg #[.slice (some ⟨b0, o0 + 2, none⟩) wv.L.length (c - 2), .slice a2 wv.K.length c2, .slice aO wv.O.length cO, .slice aQ Q.length cQ, .slice aS wv.S.length cS, .slice aP wv.P.length cP, .slice aD wv.D.length cD], .bool true]))), ((HasRow W1.heap.size wv.O.length (wv.O.map (Value.int .i64)) (fun aO cO => .tuple #[.agg #[.slice (some ⟨b0, o0 + 2, none⟩) wv.L.length (c - 2), .slice a2 wv.K.length c2, .slice aO wv.O.length cO, .slice aQ Q.length cQ, .slice aS wv.S.length cS, .slice aP wv.P.length cP, .slice aD wv.D.length cD], .bool true]))), ((HasRow W1.heap.size wv.O.length (wv.O.map (Value.int .i64)) (fun aO cO => .agg #[.slice (some ⟨b0, o0 + 2, none⟩) wv.L.length (c - 2), .slice a2 wv.K.length c2, .slice aO wv.O.length cO, .slice aQ Q.length cQ, .slice aS wv.S.length cS, .slice aP wv.P.length cP, .slice aD wv.D.length cD]))), (fun u _ => u = .bool true)] [some 27, some 28, some 29, some 30, some 31, some 26, some 32, some 33, none, some 9] #[true, true, true, true, true, true, true, true, false, false] #[true, true, true, true, true, true, true, false, false, false] (by kernel_rfl) rfl (by kernel_rfl) (by kernel_rfl) rfl (by kernel_rfl) (by kernel_rfl) (.cons (carries_eq _) (.cons (carries_eq _) (.cons (carries_eq _) (.cons (carries_eq _) (.cons (hasRow_carries _ _ _ _) (.cons (hasRow_carries _ _ _ _) (.cons (hasRow_carries _ _ _ _) (.cons (carries_eq _) .nil)))))))) (fun vs b hvl hvb => ?_)
  obtain ⟨x0, x1, x2, x3, x4, x5, x6, x7, x8, x9, rfl⟩ : ∃ x0 x1 x2 x3 x4 x5 x6 x7 x8 x9, vs = [x0, x1, x2, x3, x4, x5, x6, x7, x8, x9] := lw10 hvl
  clear hvl
  simp only [putAll, Act.put, List.setIfInBounds_toArray, List.set_cons_zero, List.set_cons_succ] at hvb
  subst hvb
  refine ⟨(.snoc (.snoc (.snoc (.snoc (.snoc (.snoc (.snoc (.snoc .zero (PartOb.intro (d := (some 27)) (r := fun u _ => u = .slice (some ⟨b0, o0, none⟩) xs.length c) rfl rfl rfl rfl ?po3x0)) (PartOb.intro (d := (some 28)) (r := fun u _ => u = .slice (some ⟨b0, o0 + 2, none⟩) wv.L.length (c - 2)) rfl rfl rfl rfl ?po3x1)) (PartOb.intro (d := (some 29)) (r := fun u _ => u = .slice a2 wv.K.length c2) rfl rfl rfl rfl ?po3x2)) (PartOb.intro (d := (some 30)) (r := fun u _ => u = .agg #[.slice aQ Q.length cQ, .slice aS wv.S.length cS, .slice aP wv.P.length cP, .slice aD wv.D.length cD]) rfl rfl rfl rfl ?po3x3)) (PartOb.intro (d := (some 31)) (r := (HasRow W1.heap.size wv.O.length (wv.O.map (Value.int .i64)) (fun aO cO => .tuple #[.agg #[.slice (some ⟨b0, o0 + 2, none⟩) wv.L.length (c - 2), .slice a2 wv.K.length c2, .slice aO wv.O.length cO, .slice aQ Q.length cQ, .slice aS wv.S.length cS, .slice aP wv.P.length cP, .slice aD wv.D.length cD], .bool true]))) rfl rfl rfl rfl ?po3x4)) (PartOb.intro (d := (some 26)) (r := (HasRow W1.heap.size wv.O.length (wv.O.map (Value.int .i64)) (fun aO cO => .tuple #[.agg #[.slice (some ⟨b0, o0 + 2, none⟩) wv.L.length (c - 2), .slice a2 wv.K.length c2, .slice aO wv.O.length cO, .slice aQ Q.length cQ, .slice aS wv.S.length cS, .slice aP wv.P.length cP, .slice aD wv.D.length cD], .bool true]))) rfl rfl rfl rfl ?po3x5)) (PartOb.intro (d := (some 32)) (r := (HasRow W1.heap.size wv.O.length (wv.O.map (Value.int .i64)) (fun aO cO => .agg #[.slice (some ⟨b0, o0 + 2, none⟩) wv.L.length (c - 2), .slice a2 wv.K.length c2, .slice aO wv.O.length cO, .slice aQ Q.length cQ, .slice aS wv.S.length cS, .slice aP wv.P.length cP, .slice aD wv.D.length cD]))) rfl rfl rfl rfl ?po3x6)) (PartOb.intro (d := (some 33)) (r := fun u _ => u = .bool true) rfl rfl rfl rfl ?po3x7)), ?pend3, ?pfl3⟩
  case po3x0 =>
   intro w1 hb1 hd KK hK
   clear hd
   simp only [Act.put, List.setIfInBounds_toArray, List.set_cons_zero, List.set_cons_succ] at hK
   go_simp
   first | exact hK.out _ _ (Below.refl _ _) rfl | (have hk := hK.out _ _ (Below.refl _ _) rfl; revert hk; go_simp)
  case po3x1 =>
   intro w1 hb1 hd KK hK
   have d0 : x0 = .slice (some ⟨b0, o0, none⟩) xs.length c := hd 0 (by kernel_rfl)
   clear hd
   subst d0
   have hxx := HE2.out
   obtain ⟨g1, g2, g3⟩ := HGX.out
   simp only [Act.put, List.setIfInBounds_toArray, List.set_cons_zero, List.set_cons_succ] at hK
   go_simp
   first | exact hK.out _ _ (Below.refl _ _) rfl | (have hk := hK.out _ _ (Below.refl _ _) rfl; revert hk; go_simp)
  case po3x2 =>
   intro w1 hb1 hd KK hK
   clear hd
   simp only [Act.put, List.setIfInBounds_toArray, List.set_cons_zero, List.set_cons_succ] at hK
   go_simp
   first | exact hK.out _ _ (Below.refl _ _) rfl | (have hk := hK.out _ _ (Below.refl _ _) rfl; revert hk; go_simp)
  case po3x3 =>
   intro w1 hb1 hd KK hK
   clear hd
   have hF := F1.out.next hb1
   have k0 := hF.c 0 0 rfl rfl
   have k1 := hF.c 0 1 rfl rfl
   have k2 := hF.c 0 2 rfl rfl
   have k3 := hF.c 0 3 rfl rfl
   simp only [Act.put, List.setIfInBounds_toArray, List.set_cons_zero, List.set_cons_succ] at hK
   go_simp
   first | exact hK.out _ _ (Below.refl _ _) rfl | (have hk := hK.out _ _ (Below.refl _ _) rfl; revert hk; go_simp)
  case po3x4 =>
   intro w1 hb1 hd KK hK
   have d1 : x1 = .slice (some ⟨b0, o0 + 2, none⟩) wv.L.length (c - 2) := hd 1 (by kernel_rfl)
   have d2 : x2 = .slice a2 wv.K.length c2 := hd 2 (by kernel_rfl)
   have d3 : x3 = .agg #[.slice aQ Q.length cQ, .slice aS wv.S.length cS, .slice aP wv.P.length cP, .slice aD wv.D.length cD] := hd 3 (by kernel_rfl)
   clear hd
   subst d1
   subst d2
   subst d3
   simp only [Act.put, List.setIfInBounds_toArray, List.set_cons_zero, List.set_cons_succ] at hK
   go_simp
   have hF := F1.out.next hb1
   go_at_call 67
   refine (HOV.out w1 (hF.lw 5 rfl) (hF.lw 1 rfl) (hF.lw 2 rfl) (hF.lw 3 rfl) (hF.lw 4 rfl)).mono ?_
   rintro e w6 ⟨aO, cO, rfl, hf⟩
   (try go_wp2_with fail)
   first | exact hK.out _ _ hf.bel ⟨aO, cO, rfl, own_mono (hf.r 0 rfl) hb1.size⟩ | (have hk := hK.out _ _ hf.bel ⟨aO, cO, rfl, own_mono (hf.r 0 rfl) hb1.size⟩; revert hk; go_simp)
  case po3x5 =>
   intro w1 hb1 hd KK hK
   have d4 : (HasRow W1.heap.size wv.O.length (wv.O.map (Value.int .i64)) (fun aO cO => .tuple #[.agg #[.slice (some ⟨b0, o0 + 2, none⟩) wv.L.length (c - 2), .slice a2 wv.K.length c2, .slice aO wv.O.length cO, .slice aQ Q.length cQ, .slice aS wv.S.length cS, .slice aP wv.P.length cP, .slice aD wv.D.length cD], .bool true])) x4 w1 := hd 4 (by kernel_rfl)
   clear hd
   obtain ⟨a4_, c4_, rfl, hO4⟩ := d4
   simp only [Act.put, List.setIfInBounds_toArray, List.set_cons_zero, List.set_cons_succ] at hK
   go_simp
   first | exact hK.out _ _ (Below.refl _ _) ⟨_, _, rfl, hO4⟩ | (have hk := hK.out _ _ (Below.refl _ _) ⟨_, _, rfl, hO4⟩; revert hk; go_simp)
  case po3x6 =>
   intro w1 hb1 hd KK hK
   have d5 : (HasRow W1.heap.size wv.O.length (wv.O.map (Value.int .i64)) (fun aO cO => .tuple #[.agg #[.slice (some ⟨b0, o0 + 2, none⟩) wv.L.length (c - 2), .slice a2 wv.K.length c2, .slice aO wv.O.length cO, .slice aQ Q.length cQ, .slice aS wv.S.length cS, .slice aP wv.P.length cP, .slice aD wv.D.length cD], .bool true])) x5 w1 := hd 5 (by kernel_rfl)
   clear hd
   obtain ⟨a5_, c5_, rfl, hO5⟩ := d5
   simp only [Act.put, List.setIfInBounds_toArray, List.set_cons_zero, List.set_cons_succ] at hK
   go_simp
   first | exact hK.out _ _ (Below.refl _ _) ⟨_, _, rfl, hO5⟩ | (have hk := hK.out _ _ (Below.refl _ _) ⟨_, _, rfl, hO5⟩; revert hk; go_simp)
  case po3x7 =>
   intro w1 hb1 hd KK hK
   have d5 : (HasRow W1.heap.size wv.O.length (wv.O.map (Value.int .i64)) (fun aO cO => .tuple #[.agg #[.slice (some ⟨b0, o0 + 2, none⟩) wv.L.length (c - 2), .slice a2 wv.K.length c2, .slice aO wv.O.length cO, .slice aQ Q.length cQ, .slice aS wv.S.length cS, .slice aP wv.P.length cP, .slice aD wv.D.length cD], .bool true])) x5 w1 := hd 5 (by kernel_rfl)
   clear hd
   obtain ⟨a5_, c5_, rfl, hO5⟩ := d5
   simp only [Act.put, List.setIfInBounds_toArray, List.set_cons_zero, List.set_cons_succ] at hK
   go_simp
   first | exact hK.out _ _ (Below.refl _ _) rfl | (have hk := hK.out _ _ (Below.refl _ _) rfl; revert hk; go_simp)
  case pend3 =>
   intro w1 hb1 hR hD
   have d0 : x0 = .slice (some ⟨b0, o0, none⟩) xs.length c := hR 0 (by decide)
   have d1 : x1 = .slice (some ⟨b0, o0 + 2, none⟩) wv.L.length (c - 2) := hR 1 (by decide)
   have d2 : x2 = .slice a2 wv.K.length c2 := hR 2 (by decide)
   have d3 : x3 = .agg #[.slice aQ Q.length cQ, .slice aS wv.S.length cS, .slice aP wv.P.length cP, .slice aD wv.D.length cD] := hR 3 (by decide)
   have d4 : (HasRow W1.heap.size wv.O.length (wv.O.map (Value.int .i64)) (fun aO cO => .tuple #[.agg #[.slice (some ⟨b0, o0 + 2, none⟩) wv.L.length (c - 2), .slice a2 wv.K.length c2, .slice aO wv.O.length cO, .slice aQ Q.length cQ, .slice aS wv.S.length cS, .slice aP wv.P.length cP, .slice aD wv.D.length cD], .bool true])) x4 w1 := hR 4 (by decide)
   have d5 : (HasRow W1.heap.size wv.O.length (wv.O.map (Value.int .i64)) (fun aO cO => .tuple #[.agg #[.slice (some ⟨b0, o0 + 2, none⟩) wv.L.length (c - 2), .slice a2 wv.K.length c2, .slice aO wv.O.length cO, .slice aQ Q.length cQ, .slice aS wv.S.length cS, .slice aP wv.P.length cP, .slice aD wv.D.length cD], .bool true])) x5 w1 := hR 5 (by decide)
   have d6 : (HasRow W1.heap.size wv.O.length (wv.O.map (Value.int .i64)) (fun aO cO => .agg #[.slice (some ⟨b0, o0 + 2, none⟩) wv.L.length (c - 2), .slice a2 wv.K.length c2, .slice aO wv.O.length cO, .slice aQ Q.length cQ, .slice aS wv.S.length cS, .slice aP wv.P.length cP, .slice aD wv.D.length cD])) x6 w1 := hR 6 (by decide)
   have d7 : x7 = .bool true := hR 7 (by decide)
   clear hR hD
   subst d0
   subst d1
   subst d2
   subst d3
   obtain ⟨a4_, c4_, rfl, hO4⟩ := d4
   obtain ⟨a5_, c5_, rfl, hO5⟩ := d5
   obtain ⟨a6_, c6_, rfl, hO6⟩ := d6
   subst d7
   refine wpAny_ready (rs := [8]) (by kernel_rfl) (by simp) (AllReady.cons rfl (fun KK hK => ?_) AllReady.nil)
   have F6 := F1.out.addO hb1 hO6
   simp only [List.nil_append, List.cons_append] at F6
   have q0 := F6.c 1 0 rfl rfl
   have q1 := F6.c 1 1 rfl rfl
   have q2 := F6.c 1 2 rfl rfl
   have q3 := F6.c 1 3 rfl rfl
   have q4 := F6.c 1 4 rfl rfl
   have q5 := F6.c 1 5 rfl rfl
   have q6 := F6.c 1 6 rfl rfl
   have qf0 := F6.f 1 0 rfl rfl
   have qf1 := F6.f 1 1 rfl rfl
   have qf2 := F6.f 1 2 rfl rfl
   have qf3 := F6.f 1 3 rfl rfl
   have qf4 := F6.f 1 4 rfl rfl
   have qf5 := F6.f 1 5 rfl rfl
   have qf6 := F6.f 1 6 rfl rfl
   go_simp
   refine hK _ _ ?_
   clear hK KK
   try simp only [putAll, Act.put, List.setIfInBounds_toArray, List.set_cons_zero, List.set_cons_succ]
   refine wpAny_ready (rs := [9]) (by kernel_rfl) (by simp) (AllReady.cons rfl (fun KK hK => ?_) AllReady.nil)
   go_simp
   refine hK _ _ ?_
   clear hK KK
   try simp only [putAll, Act.put, List.setIfInBounds_toArray, List.set_cons_zero, List.set_cons_succ]
   refine wpAny_done (by kernel_rfl) ?_ _
   have F7 := Lib.hid (F6.set 1 rfl (by simp) [.slice (some ⟨b0, o0 + 2, none⟩) wv.L.length (c - 2), .slice a2 wv.K.length c2, .slice a6_ wv.O.length c6_, .slice aQ Q.length cQ, .slice aS wv.S.length cS, .slice aP wv.P.length cP, .slice aD wv.D.length cD] rfl)
   simp only [setL, Nat.reduceAdd, List.set_cons_zero, List.set_cons_succ] at F7
   go_wp2
   go_meet
   exact ⟨rfl, a6_, c6_, F7⟩
  case pfl3 =>
   intro f hf hfn w1 hb1 hR hD
   injection hf with hf
   subst hf
   have d0 : x0 = .slice (some ⟨b0, o0, none⟩) xs.length c := hR 0 (by decide) (by decide)
   have d1 : x1 = .slice (some ⟨b0, o0 + 2, none⟩) wv.L.length (c - 2) := hR 1 (by decide) (by decide)
   have d2 : x2 = .slice a2 wv.K.length c2 := hR 2 (by decide) (by decide)
   have d3 : x3 = .agg #[.slice aQ Q.length cQ, .slice aS wv.S.length cS, .slice aP wv.P.length cP, .slice aD wv.D.length cD] := hR 3 (by decide) (by decide)
   have d4 : (HasRow W1.heap.size wv.O.length (wv.O.map (Value.int .i64)) (fun aO cO => .tuple #[.agg #[.slice (some ⟨b0, o0 + 2, none⟩) wv.L.length (c - 2), .slice a2 wv.K.length c2, .slice aO wv.O.length cO, .slice aQ Q.length cQ, .slice aS wv.S.length cS, .slice aP wv.P.length cP, .slice aD wv.D.length cD], .bool true])) x4 w1 := hR 4 (by decide) (by decide)
   have d5 : (HasRow W1.heap.size wv.O.length (wv.O.map (Value.int .i64)) (fun aO cO => .tuple #[.agg #[.slice (some ⟨b0, o0 + 2, none⟩) wv.L.length (c - 2), .slice a2 wv.K.length c2, .slice aO wv.O.length cO, .slice aQ Q.length cQ, .slice aS wv.S.length cS, .slice aP wv.P.length cP, .slice aD wv.D.length cD], .bool true])) x5 w1 := hR 5 (by decide) (by decide)
   have d6 : (HasRow W1.heap.size wv.O.length (wv.O.map (Value.int .i64)) (fun aO cO => .agg #[.slice (some ⟨b0, o0 + 2, none⟩) wv.L.length (c - 2), .slice a2 wv.K.length c2, .slice aO wv.O.length cO, .slice aQ Q.length cQ, .slice aS wv.S.length cS, .slice aP wv.P.length cP, .slice aD wv.D.length cD])) x6 w1 := hR 6 (by decide) (by decide)
   clear hR hD
   subst d0
   subst d1
   subst d2
   subst d3
   obtain ⟨a4_, c4_, rfl, hO4⟩ := d4
   obtain ⟨a5_, c5_, rfl, hO5⟩ := d5
   obtain ⟨a6_, c6_, rfl, hO6⟩ := d6
   refine wpAny_take (i := 7) (v := .bool true) rfl (by kernel_rfl) (by kernel_rfl) (by kernel_rfl) (fun _ _ _ h => h) (.inl ⟨by rfl, fun w => by go_simp⟩) ?_
   try simp only [putAll, Act.put, List.setIfInBounds_toArray, List.set_cons_zero, List.set_cons_succ]
   refine wpAny_ready (rs := [8]) (by kernel_rfl) (by simp) (AllReady.cons rfl (fun KK hK => ?_) AllReady.nil)
   have F6 := F1.out.addO hb1 hO6
   simp only [List.nil_append, List.cons_append] at F6
   have q0 := F6.c 1 0 rfl rfl
   have q1 := F6.c 1 1 rfl rfl
   have q2 := F6.c 1 2 rfl rfl
   have q3 := F6.c 1 3 rfl rfl
   have q4 := F6.c 1 4 rfl rfl
   have q5 := F6.c 1 5 rfl rfl
   have q6 := F6.c 1 6 rfl rfl
   have qf0 := F6.f 1 0 rfl rfl
   have qf1 := F6.f 1 1 rfl rfl
   have qf2 := F6.f 1 2 rfl rfl
   have qf3 := F6.f 1 3 rfl rfl
   have qf4 := F6.f 1 4 rfl rfl
   have qf5 := F6.f 1 5 rfl rfl
   have qf6 := F6.f 1 6 rfl rfl
   go_simp
   refine hK _ _ ?_
   clear hK KK
   try simp only [putAll, Act.put, List.setIfInBounds_toArray, List.set_cons_zero, List.set_cons_succ]
   refine wpAny_ready (rs := [9]) (by kernel_rfl) (by simp) (AllReady.cons rfl (fun KK hK => ?_) AllReady.nil)
   go_simp
   refine hK _ _ ?_
   clear hK KK
   try simp only [putAll, Act.put, List.setIfInBounds_toArray, List.set_cons_zero, List.set_cons_succ]
   refine wpAny_done (by kernel_rfl) ?_ _
   have F7 := Lib.hid (F6.set 1 rfl (by simp) [.slice (some ⟨b0, o0 + 2, none⟩) wv.L.length (c - 2), .slice a2 wv.K.length c2, .slice a6_ wv.O.length c6_, .slice aQ Q.length cQ, .slice aS wv.S.length cS, .slice aP wv.P.length cP, .slice aD wv.D.length cD] rfl)
   simp only [setL, Nat.reduceAdd, List.set_cons_zero, List.set_cons_succ] at F7
   go_wp2
   go_meet
   exact ⟨rfl, a6_, c6_, F7⟩
 case rest =>
  obtain ⟨rfl, aO, cO, F7⟩ := hcut
  clear F1
  obtain ⟨W7, rfl⟩ : ∃ x : World, x = wc := ⟨_, rfl⟩
  go_upto_region 6 with fail
  have hl := HLX.out
  have hk0 : 0 < xs.length := by omega
  have hk0i : (0 : Int) < (xs.length : Int) := by omega
  have hk1 : 1 < xs.length := by have := HRL.out; have := HE2.out; omega
  have hk1i : (1 : Int) < (xs.length : Int) := by omega
  have hkn : ¬ xs = [] := by intro h; rw [h] at hk0; exact absurd hk0 (by simp)
  clear hl
  refine wp_region_parts2 (w := W7) 18 0 none [] [(fun u _ => u = .slice (some ⟨b0, o0, none⟩) xs.length c), (fun u _ => u = .pointer (some ⟨b0, o0, none⟩)), (fun u _ => u = .int .i64 nA), (fun u _ => u = .slice (some ⟨b0, o0, none⟩) xs.length c), (fun u _ => u = .pointer (some ⟨b0, o0 + 1, none⟩)), (fun u _ => u = .int .i64 nB), (fun u _ => u = .agg #[.slice (some ⟨b0, o0 + 2, none⟩) wv.L.length (c - 2), .slice a2 wv.K.length c2, .slice aO wv.O.length cO, .slice aQ Q.length cQ, .slice aS wv.S.length cS, .slice aP wv.P.length cP, .slice aD wv.D.length cD]), (fun u _ => u = .int .i64 tK), (fun u _ => u = .int .i64 nT), (fun u _ => u = .agg #[.slice (some ⟨b0, o0 + 2, none⟩) wv.L.length (c - 2), .slice a2 wv.K.length c2, .slice aO wv.O.length cO, .slice aQ Q.length cQ, .slice aS wv.S.length cS, .slice aP wv.P.length cP, .slice aD wv.D.length cD]), (fun u _ => u = .int .i64 tO), ((IsRow W7.heap.size 3 3 (SS.map (Value.int .i64)))), ((HasRow W7.heap.size 3 (SS.map (Value.int .i64)) (fun a c => .tuple #[.slice a 3 c, .int .i64 0]))), ((HasRow W7.heap.size 3 (SS.map (Value.int .i64)) (fun a c => .tuple #[.slice a 3 c, .int .i64 0]))), ((HasRow W7.heap.size 3 (SS.map (Value.int .i64)) (fun a c => .slice a 3 c))), (fun u _ => u = .int .i64 0), ((HasRow W7.heap.size 3 (SS.map (Value.int .i64)) (fun a c => .slice a 3 c))), (fun u _ => u = .int .i64 0)] [some 38, some 39, some 40, some 41, some 42, some 43, some 44, some 45, some 46, some 47, some 48, some 49, some 50, some 37, some 51, some 52, some 7, some 8] #[true, true, true, true, true, true, true, true, true, true, true, true, true, true, true, true, true, true] #[true, true, true, true, true, true, true, true, true, true, true, true, true, true, true, true, true, true] (by kernel_rfl) rfl (by kernel_rfl) (by kernel_rfl) rfl (by kernel_rfl) (by kernel_rfl) (.cons (carries_eq _) (.cons (carries_eq _) (.cons (carries_eq _) (.cons (carries_eq _) (.cons (carries_eq _) (.cons (carries_eq _) (.cons (carries_eq _) (.cons (carries_eq _) (.cons (carries_eq _) (.cons (carries_eq _) (.cons (carries_eq _) (.cons (isRow_carries _ _ _ _) (.cons (hasRow_carries _ _ _ _) (.cons (hasRow_carries _ _ _ _) (.cons (hasRow_carries _ _ _ _) (.cons (carries_eq _) (.cons (hasRow_carries _ _ _ _) (.cons (carries_eq _) .nil)))))))))))))))))) (fun vs b hvl hvb => ?_)
  obtain ⟨x0, x1, x2, x3, x4, x5, x6, x7, x8, x9, x10, x11, x12, x13, x14, x15, x16, x17, rfl⟩ : ∃ x0 x1 x2 x3 x4 x5 x6 x7 x8 x9 x10 x11 x12 x13 x14 x15 x16 x17, vs = [x0, x1, x2, x3, x4, x5, x6, x7, x8, x9, x10, x11, x12, x13, x14, x15, x16, x17] := lw18 hvl
  clear hvl
  simp only [putAll, Act.put, List.setIfInBounds_toArray, List.set_cons_zero, List.set_cons_succ] at hvb
  subst hvb
  refine ⟨(.snoc (.snoc (.snoc (.snoc (.snoc (.snoc (.snoc (.snoc (.snoc (.snoc (.snoc (.snoc (.snoc (.snoc (.snoc (.snoc (.snoc (.snoc .zero (PartOb.intro (d := (some 38)) (r := fun u _ => u = .slice (some ⟨b0, o0, none⟩) xs.length c) rfl rfl rfl rfl ?po6x0)) (PartOb.intro (d := (some 39)) (r := fun u _ => u = .pointer (some ⟨b0, o0, none⟩)) rfl rfl rfl rfl ?po6x1)) (PartOb.intro (d := (some 40)) (r := fun u _ => u = .int .i64 nA) rfl rfl rfl rfl ?po6x2)) (PartOb.intro (d := (some 41)) (r := fun u _ => u = .slice (some ⟨b0, o0, none⟩) xs.length c) rfl rfl rfl rfl ?po6x3)) (PartOb.intro (d := (some 42)) (r := fun u _ => u = .pointer (some ⟨b0, o0 + 1, none⟩)) rfl rfl rfl rfl ?po6x4)) (PartOb.intro (d := (some 43)) (r := fun u _ => u = .int .i64 nB) rfl rfl rfl rfl ?po6x5)) (PartOb.intro (d := (some 44)) (r := fun u _ => u = .agg #[.slice (some ⟨b0, o0 + 2, none⟩) wv.L.length (c - 2), .slice a2 wv.K.length c2, .slice aO wv.O.length cO, .slice aQ Q.length cQ, .slice aS wv.S.length cS, .slice aP wv.P.length cP, .slice aD wv.D.length cD]) rfl rfl rfl rfl ?po6x6)) (PartOb.intro (d := (some 45)) (r := fun u _ => u = .int .i64 tK) rfl rfl rfl rfl ?po6x7)) (PartOb.intro (d := (some 46)) (r := fun u _ => u = .int .i64 nT) rfl rfl rfl rfl ?po6x8)) (PartOb.intro (d := (some 47)) (r := fun u _ => u = .agg #[.slice (some ⟨b0, o0 + 2, none⟩) wv.L.length (c - 2), .slice a2 wv.K.length c2, .slice aO wv.O.length cO, .slice aQ Q.length cQ, .slice aS wv.S.length cS, .slice aP wv.P.length cP, .slice aD wv.D.length cD]) rfl rfl rfl rfl ?po6x9)) (PartOb.intro (d := (some 48)) (r := fun u _ => u = .int .i64 tO) rfl rfl rfl rfl ?po6x10)) (PartOb.intro (d := (some 49)) (r := (IsRow W7.heap.size 3 3 (SS.map (Value.int .i64)))) rfl rfl rfl rfl ?po6x11)) (PartOb.intro (d := (some 50)) (r := (HasRow W7.heap.size 3 (SS.map (Value.int .i64)) (fun a c => .tuple #[.slice a 3 c, .int .i64 0]))) rfl rfl rfl rfl ?po6x12)) (PartOb.intro (d := (some 37)) (r := (HasRow W7.heap.size 3 (SS.map (Value.int .i64)) (fun a c => .tuple #[.slice a 3 c, .int .i64 0]))) rfl rfl rfl rfl ?po6x13)) (PartOb.intro (d := (some 51)) (r := (HasRow W7.heap.size 3 (SS.map (Value.int .i64)) (fun a c => .slice a 3 c))) rfl rfl rfl rfl ?po6x14)) (PartOb.intro (d := (some 52)) (r := fun u _ => u = .int .i64 0) rfl rfl rfl rfl ?po6x15)) (PartOb.intro (d := (some 7)) (r := (HasRow W7.heap.size 3 (SS.map (Value.int .i64)) (fun a c => .slice a 3 c))) rfl rfl rfl rfl ?po6x16)) (PartOb.intro (d := (some 8)) (r := fun u _ => u = .int .i64 0) rfl rfl rfl rfl ?po6x17)), ?pend6, ?pfl6⟩
  case po6x0 =>
   intro w1 hb1 hd KK hK
   clear hd
   simp only [Act.put, List.setIfInBounds_toArray, List.set_cons_zero, List.set_cons_succ] at hK
   go_simp
   first | exact hK.out _ _ (Below.refl _ _) rfl | (have hk := hK.out _ _ (Below.refl _ _) rfl; revert hk; go_simp)
  case po6x1 =>
   intro w1 hb1 hd KK hK
   have d0 : x0 = .slice (some ⟨b0, o0, none⟩) xs.length c := hd 0 (by kernel_rfl)
   clear hd
   subst d0
   simp only [Act.put, List.setIfInBounds_toArray, List.set_cons_zero, List.set_cons_succ] at hK
   go_simp
   first | exact hK.out _ _ (Below.refl _ _) rfl | (have hk := hK.out _ _ (Below.refl _ _) rfl; revert hk; go_simp)
  case po6x2 =>
   intro w1 hb1 hd KK hK
   have d1 : x1 = .pointer (some ⟨b0, o0, none⟩) := hd 1 (by kernel_rfl)
   clear hd
   subst d1
   have hF := F7.out.next hb1
   obtain ⟨b9, o9, he, _, hcx⟩ := (hF.l 0 rfl).cell 0 hk0
   cases he
   rw [HNA.out] at hcx
   rw [Nat.add_zero] at hcx
   simp only [Act.put, List.setIfInBounds_toArray, List.set_cons_zero, List.set_cons_succ] at hK
   go_simp
   first | exact hK.out _ _ (Below.refl _ _) rfl | (have hk := hK.out _ _ (Below.refl _ _) rfl; revert hk; go_simp)
  case po6x3 =>
   intro w1 hb1 hd KK hK
   clear hd
   simp only [Act.put, List.setIfInBounds_toArray, List.set_cons_zero, List.set_cons_succ] at hK
   go_simp
   first | exact hK.out _ _ (Below.refl _ _) rfl | (have hk := hK.out _ _ (Below.refl _ _) rfl; revert hk; go_simp)
  case po6x4 =>
   intro w1 hb1 hd KK hK
   have d3 : x3 = .slice (some ⟨b0, o0, none⟩) xs.length c := hd 3 (by kernel_rfl)
   clear hd
   subst d3
   simp only [Act.put, List.setIfInBounds_toArray, List.set_cons_zero, List.set_cons_succ] at hK
   go_simp
   first | exact hK.out _ _ (Below.refl _ _) rfl | (have hk := hK.out _ _ (Below.refl _ _) rfl; revert hk; go_simp)
  case po6x5 =>
   intro w1 hb1 hd KK hK
   have d4 : x4 = .pointer (some ⟨b0, o0 + 1, none⟩) := hd 4 (by kernel_rfl)
   clear hd
   subst d4
   have hF := F7.out.next hb1
   obtain ⟨b9, o9, he, _, hcx⟩ := (hF.l 0 rfl).cell 1 hk1
   cases he
   rw [HNB.out] at hcx
   simp only [Act.put, List.setIfInBounds_toArray, List.set_cons_zero, List.set_cons_succ] at hK
   go_simp
   first | exact hK.out _ _ (Below.refl _ _) rfl | (have hk := hK.out _ _ (Below.refl _ _) rfl; revert hk; go_simp)
  case po6x6 =>
   intro w1 hb1 hd KK hK
   clear hd
   have hF := F7.out.next hb1
   have k0 := hF.c 1 0 rfl rfl
   have k1 := hF.c 1 1 rfl rfl
   have k2 := hF.c 1 2 rfl rfl
   have k3 := hF.c 1 3 rfl rfl
   have k4 := hF.c 1 4 rfl rfl
   have k5 := hF.c 1 5 rfl rfl
   have k6 := hF.c 1 6 rfl rfl
   simp only [Act.put, List.setIfInBounds_toArray, List.set_cons_zero, List.set_cons_succ] at hK
   go_simp
   first | exact hK.out _ _ (Below.refl _ _) rfl | (have hk := hK.out _ _ (Below.refl _ _) rfl; revert hk; go_simp)
  case po6x7 =>
   intro w1 hb1 hd KK hK
   have d6 : x6 = .agg #[.slice (some ⟨b0, o0 + 2, none⟩) wv.L.length (c - 2), .slice a2 wv.K.length c2, .slice aO wv.O.length cO, .slice aQ Q.length cQ, .slice aS wv.S.length cS, .slice aP wv.P.length cP, .slice aD wv.D.length cD] := hd 6 (by kernel_rfl)
   clear hd
   subst d6
   have hF := F7.out.next hb1
   simp only [Act.put, List.setIfInBounds_toArray, List.set_cons_zero, List.set_cons_succ] at hK
   go_simp
   go_at_call 41
   refine (HTP.out _ _ w1 (hF.lw 1 rfl)).mono ?_
   rintro e w2 ⟨rfl, hb⟩
   (try go_wp2_with fail)
   first | exact hK.out _ _ hb rfl | (have hk := hK.out _ _ hb rfl; revert hk; go_simp)
  case po6x8 =>
   intro w1 hb1 hd KK hK
   have d5 : x5 = .int .i64 nB := hd 5 (by kernel_rfl)
   have d7 : x7 = .int .i64 tK := hd 7 (by kernel_rfl)
   clear hd
   subst d5
   subst d7
   have dx := HMUL.out
   simp only [Act.put, List.setIfInBounds_toArray, List.set_cons_zero, List.set_cons_succ] at hK
   go_simp
   first | exact hK.out _ _ (Below.refl _ _) rfl | (have hk := hK.out _ _ (Below.refl _ _) rfl; revert hk; go_simp)
  case po6x9 =>
   intro w1 hb1 hd KK hK
   clear hd
   have hF := F7.out.next hb1
   have k0 := hF.c 1 0 rfl rfl
   have k1 := hF.c 1 1 rfl rfl
   have k2 := hF.c 1 2 rfl rfl
   have k3 := hF.c 1 3 rfl rfl
   have k4 := hF.c 1 4 rfl rfl
   have k5 := hF.c 1 5 rfl rfl
   have k6 := hF.c 1 6 rfl rfl
   simp only [Act.put, List.setIfInBounds_toArray, List.set_cons_zero, List.set_cons_succ] at hK
   go_simp
   first | exact hK.out _ _ (Below.refl _ _) rfl | (have hk := hK.out _ _ (Below.refl _ _) rfl; revert hk; go_simp)
  case po6x10 =>
   intro w1 hb1 hd KK hK
   have d7 : x7 = .int .i64 tK := hd 7 (by kernel_rfl)
   have d9 : x9 = .agg #[.slice (some ⟨b0, o0 + 2, none⟩) wv.L.length (c - 2), .slice a2 wv.K.length c2, .slice aO wv.O.length cO, .slice aQ Q.length cQ, .slice aS wv.S.length cS, .slice aP wv.P.length cP, .slice aD wv.D.length cD] := hd 9 (by kernel_rfl)
   clear hd
   subst d7
   subst d9
   have hF := F7.out.next hb1
   simp only [Act.put, List.setIfInBounds_toArray, List.set_cons_zero, List.set_cons_succ] at hK
   go_simp
   go_at_call 37
   refine (HPL.out _ _ w1 (hF.li 0 (k := .i64) (xs := wv.O) rfl HWO.out)).mono ?_
   rintro e w2 ⟨rfl, hb⟩
   (try go_wp2_with fail)
   first | exact hK.out _ _ hb rfl | (have hk := hK.out _ _ hb rfl; revert hk; go_simp)
  case po6x11 =>
   intro w1 hb1 hd KK hK
   have d2 : x2 = .int .i64 nA := hd 2 (by kernel_rfl)
   have d8 : x8 = .int .i64 nT := hd 8 (by kernel_rfl)
   have d10 : x10 = .int .i64 tO := hd 10 (by kernel_rfl)
   clear hd
   subst d2
   subst d8
   subst d10
   simp only [Act.put, List.setIfInBounds_toArray, List.set_cons_zero, List.set_cons_succ] at hK
   go_simp
   first | exact hK.out _ _ ((Below.refl _ _).alloc (Nat.le_refl _) _) ⟨_, _, rfl, (by rw [← HSD.out]; exact World.ownsRow_lit (base := W7.heap.size) (size := 1) (e := 3) w1 #[.int .i64 nA, .int .i64 nT, .int .i64 tO] 3 hb1.size (by decide) rfl)⟩ | (have hk := hK.out _ _ ((Below.refl _ _).alloc (Nat.le_refl _) _) ⟨_, _, rfl, (by rw [← HSD.out]; exact World.ownsRow_lit (base := W7.heap.size) (size := 1) (e := 3) w1 #[.int .i64 nA, .int .i64 nT, .int .i64 tO] 3 hb1.size (by decide) rfl)⟩; revert hk; go_simp)
  case po6x12 =>
   intro w1 hb1 hd KK hK
   have d10 : x10 = .int .i64 tO := hd 10 (by kernel_rfl)
   have d11 : (IsRow W7.heap.size 3 3 (SS.map (Value.int .i64))) x11 w1 := hd 11 (by kernel_rfl)
   clear hd
   subst d10
   obtain ⟨a11_, c11_, rfl, hO11⟩ := d11
   simp only [Act.put, List.setIfInBounds_toArray, List.set_cons_zero, List.set_cons_succ] at hK
   go_simp
   go_at_call 68
   refine (HSH.out a11_ c11_ w1 (ints_row hO11 (by rw [← HSD.out]; rfl) HSWF.out)).mono ?_
   rintro e w' ⟨rfl, rfl⟩
   (try go_wp2_with fail)
   first | exact hK.out _ _ (Below.refl _ _) ⟨_, _, rfl, hO11⟩ | (have hk := hK.out _ _ (Below.refl _ _) ⟨_, _, rfl, hO11⟩; revert hk; go_simp)
  case po6x13 =>
   intro w1 hb1 hd KK hK
   have d12 : (HasRow W7.heap.size 3 (SS.map (Value.int .i64)) (fun a c => .tuple #[.slice a 3 c, .int .i64 0])) x12 w1 := hd 12 (by kernel_rfl)
   clear hd
   obtain ⟨a12_, c12_, rfl, hO12⟩ := d12
   simp only [Act.put, List.setIfInBounds_toArray, List.set_cons_zero, List.set_cons_succ] at hK
   go_simp
   first | exact hK.out _ _ (Below.refl _ _) ⟨_, _, rfl, hO12⟩ | (have hk := hK.out _ _ (Below.refl _ _) ⟨_, _, rfl, hO12⟩; revert hk; go_simp)
  case po6x14 =>
   intro w1 hb1 hd KK hK
   have d13 : (HasRow W7.heap.size 3 (SS.map (Value.int .i64)) (fun a c => .tuple #[.slice a 3 c, .int .i64 0])) x13 w1 := hd 13 (by kernel_rfl)
   clear hd
   obtain ⟨a13_, c13_, rfl, hO13⟩ := d13
   simp only [Act.put, List.setIfInBounds_toArray, List.set_cons_zero, List.set_cons_succ] at hK
   go_simp
   first | exact hK.out _ _ (Below.refl _ _) ⟨_, _, rfl, hO13⟩ | (have hk := hK.out _ _ (Below.refl _ _) ⟨_, _, rfl, hO13⟩; revert hk; go_simp)
  case po6x15 =>
   intro w1 hb1 hd KK hK
   have d13 : (HasRow W7.heap.size 3 (SS.map (Value.int .i64)) (fun a c => .tuple #[.slice a 3 c, .int .i64 0])) x13 w1 := hd 13 (by kernel_rfl)
   clear hd
   obtain ⟨a13_, c13_, rfl, hO13⟩ := d13
   simp only [Act.put, List.setIfInBounds_toArray, List.set_cons_zero, List.set_cons_succ] at hK
   go_simp
   first | exact hK.out _ _ (Below.refl _ _) rfl | (have hk := hK.out _ _ (Below.refl _ _) rfl; revert hk; go_simp)
  case po6x16 =>
   intro w1 hb1 hd KK hK
   have d0 : x0 = .slice (some ⟨b0, o0, none⟩) xs.length c := hd 0 (by kernel_rfl)
   have d1 : x1 = .pointer (some ⟨b0, o0, none⟩) := hd 1 (by kernel_rfl)
   have d2 : x2 = .int .i64 nA := hd 2 (by kernel_rfl)
   have d3 : x3 = .slice (some ⟨b0, o0, none⟩) xs.length c := hd 3 (by kernel_rfl)
   have d4 : x4 = .pointer (some ⟨b0, o0 + 1, none⟩) := hd 4 (by kernel_rfl)
   have d5 : x5 = .int .i64 nB := hd 5 (by kernel_rfl)
   have d6 : x6 = .agg #[.slice (some ⟨b0, o0 + 2, none⟩) wv.L.length (c - 2), .slice a2 wv.K.length c2, .slice aO wv.O.length cO, .slice aQ Q.length cQ, .slice aS wv.S.length cS, .slice aP wv.P.length cP, .slice aD wv.D.length cD] := hd 6 (by kernel_rfl)
   have d7 : x7 = .int .i64 tK := hd 7 (by kernel_rfl)
   have d8 : x8 = .int .i64 nT := hd 8 (by kernel_rfl)
   have d9 : x9 = .agg #[.slice (some ⟨b0, o0 + 2, none⟩) wv.L.length (c - 2), .slice a2 wv.K.length c2, .slice aO wv.O.length cO, .slice aQ Q.length cQ, .slice aS wv.S.length cS, .slice aP wv.P.length cP, .slice aD wv.D.length cD] := hd 9 (by kernel_rfl)
   have d10 : x10 = .int .i64 tO := hd 10 (by kernel_rfl)
   have d11 : (IsRow W7.heap.size 3 3 (SS.map (Value.int .i64))) x11 w1 := hd 11 (by kernel_rfl)
   have d12 : (HasRow W7.heap.size 3 (SS.map (Value.int .i64)) (fun a c => .tuple #[.slice a 3 c, .int .i64 0])) x12 w1 := hd 12 (by kernel_rfl)
   have d13 : (HasRow W7.heap.size 3 (SS.map (Value.int .i64)) (fun a c => .tuple #[.slice a 3 c, .int .i64 0])) x13 w1 := hd 13 (by kernel_rfl)
   have d14 : (HasRow W7.heap.size 3 (SS.map (Value.int .i64)) (fun a c => .slice a 3 c)) x14 w1 := hd 14 (by kernel_rfl)
   clear hd
   subst d0
   subst d1
   subst d2
   subst d3
   subst d4
   subst d5
   subst d6
   subst d7
   subst d8
   subst d9
   subst d10
   obtain ⟨a11_, c11_, rfl, hO11⟩ := d11
   obtain ⟨a12_, c12_, rfl, hO12⟩ := d12
   obtain ⟨a13_, c13_, rfl, hO13⟩ := d13
   obtain ⟨a14_, c14_, rfl, hO14⟩ := d14
   simp only [Act.put, List.setIfInBounds_toArray, List.set_cons_zero, List.set_cons_succ] at hK
   go_simp
   first | exact hK.out _ _ (Below.refl _ _) ⟨_, _, rfl, hO14⟩ | (have hk := hK.out _ _ (Below.refl _ _) ⟨_, _, rfl, hO14⟩; revert hk; go_simp)
  case po6x17 =>
   intro w1 hb1 hd KK hK
   have d0 : x0 = .slice (some ⟨b0, o0, none⟩) xs.length c := hd 0 (by kernel_rfl)
   have d1 : x1 = .pointer (some ⟨b0, o0, none⟩) := hd 1 (by kernel_rfl)
   have d2 : x2 = .int .i64 nA := hd 2 (by kernel_rfl)
   have d3 : x3 = .slice (some ⟨b0, o0, none⟩) xs.length c := hd 3 (by kernel_rfl)
   have d4 : x4 = .pointer (some ⟨b0, o0 + 1, none⟩) := hd 4 (by kernel_rfl)
   have d5 : x5 = .int .i64 nB := hd 5 (by kernel_rfl)
   have d6 : x6 = .agg #[.slice (some ⟨b0, o0 + 2, none⟩) wv.L.length (c - 2), .slice a2 wv.K.length c2, .slice aO wv.O.length cO, .slice aQ Q.length cQ, .slice aS wv.S.length cS, .slice aP wv.P.length cP, .slice aD wv.D.length cD] := hd 6 (by kernel_rfl)
   have d7 : x7 = .int .i64 tK := hd 7 (by kernel_rfl)
   have d8 : x8 = .int .i64 nT := hd 8 (by kernel_rfl)
   have d9 : x9 = .agg #[.slice (some ⟨b0, o0 + 2, none⟩) wv.L.length (c - 2), .slice a2 wv.K.length c2, .slice aO wv.O.length cO, .slice aQ Q.length cQ, .slice aS wv.S.length cS, .slice aP wv.P.length cP, .slice aD wv.D.length cD] := hd 9 (by kernel_rfl)
   have d10 : x10 = .int .i64 tO := hd 10 (by kernel_rfl)
   have d11 : (IsRow W7.heap.size 3 3 (SS.map (Value.int .i64))) x11 w1 := hd 11 (by kernel_rfl)
   have d12 : (HasRow W7.heap.size 3 (SS.map (Value.int .i64)) (fun a c => .tuple #[.slice a 3 c, .int .i64 0])) x12 w1 := hd 12 (by kernel_rfl)
   have d13 : (HasRow W7.heap.size 3 (SS.map (Value.int .i64)) (fun a c => .tuple #[.slice a 3 c, .int .i64 0])) x13 w1 := hd 13 (by kernel_rfl)
   have d14 : (HasRow W7.heap.size 3 (SS.map (Value.int .i64)) (fun a c => .slice a 3 c)) x14 w1 := hd 14 (by kernel_rfl)
   have d15 : x15 = .int .i64 0 := hd 15 (by kernel_rfl)
   have d16 : (HasRow W7.heap.size 3 (SS.map (Value.int .i64)) (fun a c => .slice a 3 c)) x16 w1 := hd 16 (by kernel_rfl)
   clear hd
   subst d0
   subst d1
   subst d2
   subst d3
   subst d4
   subst d5
   subst d6
   subst d7
   subst d8
   subst d9
   subst d10
   obtain ⟨a11_, c11_, rfl, hO11⟩ := d11
   obtain ⟨a12_, c12_, rfl, hO12⟩ := d12
   obtain ⟨a13_, c13_, rfl, hO13⟩ := d13
   obtain ⟨a14_, c14_, rfl, hO14⟩ := d14
   subst d15
   obtain ⟨a16_, c16_, rfl, hO16⟩ := d16
   simp only [Act.put, List.setIfInBounds_toArray, List.set_cons_zero, List.set_cons_succ] at hK
   go_simp
   first | exact hK.out _ _ (Below.refl _ _) rfl | (have hk := hK.out _ _ (Below.refl _ _) rfl; revert hk; go_simp)
  case pfl6 => (intro f hf; cases hf)
  case pend6 =>
  intro w1 hb1 hR hD
  have d0 : x0 = .slice (some ⟨b0, o0, none⟩) xs.length c := hR 0 (by decide)
  have d1 : x1 = .pointer (some ⟨b0, o0, none⟩) := hR 1 (by decide)
  have d2 : x2 = .int .i64 nA := hR 2 (by decide)
  have d3 : x3 = .slice (some ⟨b0, o0, none⟩) xs.length c := hR 3 (by decide)
  have d4 : x4 = .pointer (some ⟨b0, o0 + 1, none⟩) := hR 4 (by decide)
  have d5 : x5 = .int .i64 nB := hR 5 (by decide)
  have d6 : x6 = .agg #[.slice (some ⟨b0, o0 + 2, none⟩) wv.L.length (c - 2), .slice a2 wv.K.length c2, .slice aO wv.O.length cO, .slice aQ Q.length cQ, .slice aS wv.S.length cS, .slice aP wv.P.length cP, .slice aD wv.D.length cD] := hR 6 (by decide)
  have d7 : x7 = .int .i64 tK := hR 7 (by decide)
  have d8 : x8 = .int .i64 nT := hR 8 (by decide)
  have d9 : x9 = .agg #[.slice (some ⟨b0, o0 + 2, none⟩) wv.L.length (c - 2), .slice a2 wv.K.length c2, .slice aO wv.O.length cO, .slice aQ Q.length cQ, .slice aS wv.S.length cS, .slice aP wv.P.length cP, .slice aD wv.D.length cD] := hR 9 (by decide)
  have d10 : x10 = .int .i64 tO := hR 10 (by decide)
  have d11 : (IsRow W7.heap.size 3 3 (SS.map (Value.int .i64))) x11 w1 := hR 11 (by decide)
  have d12 : (HasRow W7.heap.size 3 (SS.map (Value.int .i64)) (fun a c => .tuple #[.slice a 3 c, .int .i64 0])) x12 w1 := hR 12 (by decide)
  have d13 : (HasRow W7.heap.size 3 (SS.map (Value.int .i64)) (fun a c => .tuple #[.slice a 3 c, .int .i64 0])) x13 w1 := hR 13 (by decide)
  have d14 : (HasRow W7.heap.size 3 (SS.map (Value.int .i64)) (fun a c => .slice a 3 c)) x14 w1 := hR 14 (by decide)
  have d15 : x15 = .int .i64 0 := hR 15 (by decide)
  have d16 : (HasRow W7.heap.size 3 (SS.map (Value.int .i64)) (fun a c => .slice a 3 c)) x16 w1 := hR 16 (by decide)
  have d17 : x17 = .int .i64 0 := hR 17 (by decide)
  clear hR hD
  subst d0
  subst d1
  subst d2
  subst d3
  subst d4
  subst d5
  subst d6
  subst d7
  subst d8
  subst d9
  subst d10
  obtain ⟨a11_, c11_, rfl, hO11⟩ := d11
  obtain ⟨a12_, c12_, rfl, hO12⟩ := d12
  obtain ⟨a13_, c13_, rfl, hO13⟩ := d13
  obtain ⟨a14_, c14_, rfl, hO14⟩ := d14
  subst d15
  obtain ⟨a16_, c16_, rfl, hO16⟩ := d16
  subst d17
  refine wpAny_done (by kernel_rfl) ?_ _
  have F9 := Lib.hid (F7.out.addO hb1 hO16)
  simp only [List.cons_append, List.nil_append] at F9
  clear F7 hb1
  obtain ⟨V9, rfl⟩ : ∃ x : World, x = w1 := ⟨_, rfl⟩
  have d1_0 := F9.out.c 1 0 rfl rfl
  have d1_1 := F9.out.c 1 1 rfl rfl
  have d1_2 := F9.out.c 1 2 rfl rfl
  have d1_3 := F9.out.c 1 3 rfl rfl
  have d1_4 := F9.out.c 1 4 rfl rfl
  have d1_5 := F9.out.c 1 5 rfl rfl
  have d1_6 := F9.out.c 1 6 rfl rfl
  have df1_0 := F9.out.f 1 0 rfl rfl
  have df1_1 := F9.out.f 1 1 rfl rfl
  have df1_2 := F9.out.f 1 2 rfl rfl
  have df1_3 := F9.out.f 1 3 rfl rfl
  have df1_4 := F9.out.f 1 4 rfl rfl
  have df1_5 := F9.out.f 1 5 rfl rfl
  have df1_6 := F9.out.f 1 6 rfl rfl
  go_wp2
  have FZ := F9.out.set 1 rfl (by simp) [.slice (some ⟨b0, o0 + 2, none⟩) wv.L.length (c - 2), .slice a2 wv.K.length c2, .slice aO wv.O.length cO, .slice aQ Q.length cQ, .slice aS wv.S.length cS, .slice aP wv.P.length cP, .slice aD wv.D.length cD] rfl
  simp only [setL, Nat.reduceAdd, List.set_cons_zero, List.set_cons_succ] at FZ
  have y0 := FZ.c 1 0 rfl rfl
  have y1 := FZ.c 1 1 rfl rfl
  have y2 := FZ.c 1 2 rfl rfl
  have y3 := FZ.c 1 3 rfl rfl
  have y4 := FZ.c 1 4 rfl rfl
  have y5 := FZ.c 1 5 rfl rfl
  have y6 := FZ.c 1 6 rfl rfl
  refine bodyPost_ret (v := .tuple #[.agg #[.slice (some ⟨b0, o0 + 2, none⟩) wv.L.length (c - 2), .slice a2 wv.K.length c2, .slice aO wv.O.length cO, .slice aQ Q.length cQ, .slice aS wv.S.length cS, .slice aP wv.P.length cP, .slice aD wv.D.length cD], .slice a16_ 3 c16_, .int .i64 0]) ?_ rfl ⟨_, _, _, _, _, _, rfl, ⟨b0, o0, by simp, by simp⟩, FZ.rows⟩
  rw [results_ctt rfl]
  go_simp
end Go.Proofs.Ytadlnmckcnfacaa
