import Derived.Test.YtadlnmckcnfacaaUCoE
set_option linter.unusedVariables false
set_option linter.unusedSimpArgs false
namespace Go.Proofs.Ytadlnmckcnfacaa
open Go.RowKit Go.Rt
attribute [local go_sem] Oper.semAt_some
theorem lw34 {α : Type} {l0 : List α} (h0 : l0.length = 34) : ∃ x0 x1 x2 x3 x4 x5 x6 x7 x8 x9 x10 x11 x12 x13 x14 x15 x16 x17 x18 x19 x20 x21 x22 x23 x24 x25 x26 x27 x28 x29 x30 x31 x32 x33, l0 = [x0, x1, x2, x3, x4, x5, x6, x7, x8, x9, x10, x11, x12, x13, x14, x15, x16, x17, x18, x19, x20, x21, x22, x23, x24, x25, x26, x27, x28, x29, x30, x31, x32, x33] := by
 obtain ⟨x0, l1, rfl, h1⟩ := lwC h0
 obtain ⟨x1, l2, rfl, h2⟩ := lwC h1
 obtain ⟨x2, l3, rfl, h3⟩ := lwC h2
 obtain ⟨x3, l4, rfl, h4⟩ := lwC h3
 obtain ⟨x4, l5, rfl, h5⟩ := lwC h4
 obtain ⟨x5, l6, rfl, h6⟩ := lwC h5
 obtain ⟨x6, l7, rfl, h7⟩ := lwC h6
 obtain ⟨x7, l8, rfl, h8⟩ := lwC h7
 obtain ⟨x8, l9, rfl, h9⟩ := lwC h8
 obtain ⟨x9, l10, rfl, h10⟩ := lwC h9
 obtain ⟨x10, l11, rfl, h11⟩ := lwC h10
 obtain ⟨x11, l12, rfl, h12⟩ := lwC h11
 obtain ⟨x12, l13, rfl, h13⟩ := lwC h12
 obtain ⟨x13, l14, rfl, h14⟩ := lwC h13
 obtain ⟨x14, l15, rfl, h15⟩ := lwC h14
 obtain ⟨x15, l16, rfl, h16⟩ := lwC h15
 obtain ⟨x16, l17, rfl, h17⟩ := lwC h16
 obtain ⟨x17, l18, rfl, h18⟩ := lwC h17
 obtain ⟨x18, l19, rfl, h19⟩ := lwC h18
 obtain ⟨x19, l20, rfl, h20⟩ := lwC h19
 obtain ⟨x20, l21, rfl, h21⟩ := lwC h20
 obtain ⟨x21, l22, rfl, h22⟩ := lwC h21
 obtain ⟨x22, l23, rfl, h23⟩ := lwC h22
 obtain ⟨x23, l24, rfl, h24⟩ := lwC h23
 obtain ⟨x24, l25, rfl, h25⟩ := lwC h24
 obtain ⟨x25, l26, rfl, h26⟩ := lwC h25
 obtain ⟨x26, l27, rfl, h27⟩ := lwC h26
 obtain ⟨x27, l28, rfl, h28⟩ := lwC h27
 obtain ⟨x28, l29, rfl, h29⟩ := lwC h28
 obtain ⟨x29, l30, rfl, h30⟩ := lwC h29
 obtain ⟨x30, l31, rfl, h31⟩ := lwC h30
 obtain ⟨x31, l32, rfl, h32⟩ := lwC h31
 obtain ⟨x32, l33, rfl, h33⟩ := lwC h32
 obtain ⟨x33, l34, rfl, h34⟩ := lwC h33
 obtain rfl := List.length_eq_zero_iff.1 h34
 exact ⟨x0, x1, x2, x3, x4, x5, x6, x7, x8, x9, x10, x11, x12, x13, x14, x15, x16, x17, x18, x19, x20, x21, x22, x23, x24, x25, x26, x27, x28, x29, x30, x31, x32, x33, rfl⟩
theorem frs_re {S lo : Nat} {w wr : World} {B : List (Nat × List Value)} {I : List (IntKind × Option Addr × List Int)} {O : List Row} {M : List (Nat × Obj)} (h : FrS S lo w wr B I O M) : FrS S lo wr wr B I O M := ⟨h.fr.re, h.lS, h.sz, h.bB, h.bO, h.bM⟩
theorem each_bound {R C T N M m p t z : Nat} (hm : m < R * C) (hp : p < N) (ht : t < T) (hz : z < M) (h1 : R * (C * T) * N ≤ 65536) (h2 : R * (C * M) ≤ 65536) :
  (m * T ≤ 65536 ∧ m * T + t ≤ 65536 ∧ (m * T + t) * N ≤ 65536 ∧ (m * T + t) * N + p < 65536) ∧ (m * M ≤ 65536 ∧ m * M + z < 65536) := by
 have e1 : m * T + t + 1 ≤ R * C * T := by have := Nat.mul_le_mul_right T (show m + 1 ≤ R * C by omega); rw [Nat.succ_mul] at this; omega
 have e2 : (m * T + t) * N + N ≤ R * (C * T) * N := by have := Nat.mul_le_mul_right N e1; rw [Nat.succ_mul, Nat.mul_assoc R C T] at this; exact this
 have e3 : m * M + M ≤ R * (C * M) := by have := Nat.mul_le_mul_right M (show m + 1 ≤ R * C by omega); rw [Nat.succ_mul, Nat.mul_assoc R C M] at this; exact this
 have e4 : m * T + t ≤ (m * T + t) * N := Nat.le_mul_of_pos_right _ (by omega)
 omega
theorem each_any (aL aK aO aQ aS aP aD : Option Addr) (cL cK cO cQ cS cP cD : Nat) (Q : List Int) (wv : WinV) (aX : Option Addr) (cX M : Nat) (xs : List Int) (w : World) (hL : Ints .i64 w w.heap.size aL wv.L) (hg : goodB wv.L = true) (hM : prodI wv.L = (M : Int)) :
  Calls Try.prog 46 #[.agg #[.slice aL wv.L.length cL, .slice aK wv.K.length cK, .slice aO wv.O.length cO, .slice aQ Q.length cQ, .slice aS wv.S.length cS, .slice aP wv.P.length cP, .slice aD wv.D.length cD], .slice aX xs.length cX] w fun e w' => ∃ q, e = .returned (.func (.func 84) #[] #[.pointer (some ⟨w.heap.size + 1, 0, none⟩), .pointer (some ⟨w.heap.size, 0, none⟩), .pointer (some ⟨q, 0, none⟩)]) ∧ Fr w.heap.size w w' [(w.heap.size, [.slice aL wv.L.length cL, .slice aK wv.K.length cK, .slice aO wv.O.length cO, .slice aQ Q.length cQ, .slice aS wv.S.length cS, .slice aP wv.P.length cP, .slice aD wv.D.length cD]), (w.heap.size + 1, [.slice aX xs.length cX]), (q, [.int .i64 (M : Int)])] [] [] [] := by
 have F1 := Lib.hid (((Fr.start (w := w) (I := [(.i64, aL, wv.L)]) (by intro z hz; simp at hz; rcases hz with rfl; exact hL)).box1 (b := w.heap.size) rfl [.slice aL wv.L.length cL, .slice aK wv.K.length cK, .slice aO wv.O.length cO, .slice aQ Q.length cQ, .slice aS wv.S.length cS, .slice aP wv.P.length cP, .slice aD wv.D.length cD] 64).box1 (b := w.heap.size + 1) (by simp) [.slice aX xs.length cX] 23)
 simp only [List.nil_append, List.cons_append] at F1
 have hcm := fun W (h : Ints .i64 W W.heap.size aL wv.L) => count_any aL cL (World.heap W).size wv.L W h hg
 rw [hM] at hcm
 have HCM := Lib.hid hcm
 clear hL hcm hg
 go_enter Try.func46, Try.ntmps46
 go_upto_region 1 with fail
 obtain ⟨W1, hW1⟩ : ∃ W1, (w.alloc (.cells #[.slice aL wv.L.length cL, .slice aK wv.K.length cK, .slice aO wv.O.length cO, .slice aQ Q.length cQ, .slice aS wv.S.length cS, .slice aP wv.P.length cP, .slice aD wv.D.length cD] 64)).alloc (.cells #[.slice aX xs.length cX] 23) = W1 := ⟨_, rfl⟩
 rw [hW1] at F1 ⊢
 clear hW1
 have c0 := F1.out.c 0 0 rfl rfl
 go_upto_region 2 with (go_at_call 36; refine (HCM.out _ (F1.out.lw 0 rfl)).mono ?_; rintro e w2 ⟨rfl, rfl⟩)
 obtain ⟨Y, hY⟩ : ∃ x, W1.heap.size = x := ⟨_, rfl⟩
 rw [hY]
 have F3 := Lib.hid (F1.out.box1 (b := Y) hY [.int .i64 (M : Int)] 3)
 simp only [List.nil_append, List.cons_append] at F3
 obtain ⟨W3, hW3⟩ : ∃ x, (W1.alloc (.cells #[.int .i64 (M : Int)] 3)) = x := ⟨_, rfl⟩
 rw [hW3] at F3 ⊢
 clear hW3 hY F1
 go_wp2
 go_ret
 exact ⟨Y, rfl, F3.out.less (.refl _) (List.nil_sublist _) (.refl _) (.refl _)⟩

set_option maxRecDepth 100000 in
set_option maxHeartbeats 4000000 in
theorem eachIter (n : Nat) (hn : 12 ≤ n) (l B1 B2 B3 R C N T M S : Nat) (aL aK aO aQ aS aP aD : Option Addr) (cL cK cO cQ cS cP cD : Nat) (Q : List Int) (wv : WinV) (aX : Option Addr) (cX : Nat) (xs : List Int) (W : World) (hS : W.heap.size = S) (J : Nat → Nat → Nat → World → Prop) (hR : wv.R) (hok : wv.okB = true) (hr : 1 ≤ wv.L.length) (hgO : goodB wv.O = true) (hgK : goodB wv.K = true) (hN : prodI wv.O = (N : Int)) (hT : prodI wv.K = (T : Int)) (hM : prodI wv.L = (M : Int))
  (hx0 : xs[0]?.getD 0 = (R : Int)) (hx1 : xs[1]?.getD 0 = (C : Int)) (hxl : 2 ≤ xs.length) (hbc : R * (C * T) * N ≤ 65536) (hba : R * (C * M) ≤ 65536) (hRb : R ≤ 65536) (hCb : C ≤ 65536) (hRC : R * C ≤ 65536)
  (hJ : ∀ m p t W1 W2, J m p t W1 → Below S W1 W2 → J m p t W2)
  (hJB : ∀ m p t W1, J m p t W1 → S ≤ W1.heap.size ∧ BoxL W1 B1 [.slice aX xs.length cX] ∧ BoxL W1 B2 [.slice aL wv.L.length cL, .slice aK wv.K.length cK, .slice aO wv.O.length cO, .slice aQ Q.length cQ, .slice aS wv.S.length cS, .slice aP wv.P.length cP, .slice aD wv.D.length cD] ∧ BoxL W1 B3 [.int .i64 (M : Int)] ∧ Ints .i64 W1 S aX xs ∧ WinAt W1 S aL aK aO aS aP aD wv)
  (hskip : ∀ m p t W1, m < R * C → p < N → t < T → wv.wB p t = false → J m p t W1 → J m p (t + 1) W1)
  (hnext : ∀ m p W1, m < R * C → p < N → J m p T W1 → J m (p + 1) 0 W1)
  (hrow : ∀ m W1, m < R * C → J m N 0 W1 → J (m + 1) 0 0 W1)
  (hY : ∀ m p t W1, m < R * C → p < N → t < T → wv.wB p t = true → J m p t W1 → YieldAt Fence.wide (n - 1 - 1 - 1 - 1 - 1) Try.prog l #[.int .i64 (((m * T + t) * N + p : Nat) : Int), .int .i64 ((m * M + (wv.wI p t).toNat : Nat) : Int)] W1 fun e W' => Kept S W1 W' ∧ e = .returned (.bool true) ∧ J m p (t + 1) W')
  (h0 : J 0 0 0 W) :
  CallsIn Fence.wide n Try.prog 84 #[.func (.yield l) #[] #[], .pointer (some ⟨B1, 0, none⟩), .pointer (some ⟨B2, 0, none⟩), .pointer (some ⟨B3, 0, none⟩)] W fun e W' => (∃ v, e = .returned v) ∧ J (R * C) 0 0 W' := by
 obtain ⟨_, hb0, _⟩ := hJB 0 0 0 W h0
 have hBW : B1 < S := by rw [← hS]; exact hb0.lt (by simp)
 have hx0n : 0 < xs.length := by omega
 have hx0i : (0 : Int) < (xs.length : Int) := by omega
 have hx1i : (1 : Int) < (xs.length : Int) := by omega
 have hxn : ¬ xs = [] := by intro h; rw [h] at hx0n; exact absurd hx0n (by simp)
 have HXL := Lib.hid (And.intro hx0n (And.intro hx0i (And.intro hx1i (And.intro hxn hxl))))
 have HX0 := Lib.hid hx0
 have HX1 := Lib.hid hx1
 have HBC := Lib.hid (And.intro hbc (And.intro hba (And.intro hRb (And.intro hCb hRC))))
 have HR := Lib.hid hR
 have HOK := Lib.hid hok
 have HRL := Lib.hid hr
 have HGO := Lib.hid hgO
 have HGK := Lib.hid hgK
 have HN := Lib.hid hN
 have HT := Lib.hid hT
 have HM := Lib.hid hM
 have HJ := Lib.hid hJ
 have HJB := Lib.hid hJB
 have HSK := Lib.hid hskip
 have HNX := Lib.hid hnext
 have HRW := Lib.hid hrow
 have HY := Lib.hid hY
 have H0 := Lib.hid h0
 clear hb0 hR hok hr hgO hgK hN hT hM hJ hJB hskip hnext hrow hY h0 hx0 hx1 hxl hbc hba hRb hCb hRC hx0n hx0i hx1i hxn
 refine callsIn_of_wp_marks Try.func84 rfl trivial ?_ rfl
 simp only [Try.ntmps84, List.size_toArray, List.length_cons, List.length_nil, Nat.reduceAdd, Nat.reduceSub, Array.replicate_succ, Array.replicate_zero, List.push_toArray, List.append_toArray, List.nil_append, List.cons_append]
 refine wpIn_wide.2 ?_
 have F1 := Lib.hid (((Fr.start (w := W) (I := []) (by simp)).box1 (b := S) hS [.func (.yield l) #[] #[]] 122).re)
 simp only [List.nil_append, hS] at F1
 have HBW : Hid (Below S W (W.alloc (.cells #[.func (.yield l) #[] #[]] 122))) := Lib.hid ((Below.refl _ _).alloc (by omega) _)
 go_upto_region 1 with fail
 obtain ⟨W1, hW1⟩ : ∃ W1, (W.alloc (.cells #[.func (.yield l) #[] #[]] 122)) = W1 := ⟨_, rfl⟩
 rw [hW1] at F1 HBW ⊢
 clear hW1
 have HJ1 := Lib.hid (HJ.out 0 0 0 _ _ H0.out HBW.out)
 obtain ⟨hs1, hb1, _, _, hi1, _⟩ := HJB.out 0 0 0 W1 HJ1.out
 have y0 := hb1.cell 0 _ rfl
 obtain ⟨g0, g1, g1i, g2, g3⟩ := HXL.out
 obtain ⟨gX, oX, rfl, hgX, hcx⟩ := hi1.cell 0 g0
 rw [Nat.add_zero, HX0.out] at hcx
 clear hb1 hi1 H0 HBW
 go_wp2
 clear y0 hcx hs1 g3
 refine wp_loopF (fun s w' ds => ∃ (a : Nat) (Ds : List Nat), a ≤ R ∧ s 11 = .int .i64 (a : Int) ∧ ds = mkD Ds ∧ Hid (J (a * C) 0 0 w') ∧ Hid (Fr S w' w' [(S, [.func (.yield l) #[] #[]])] [] [] (mkM Ds))) (fun s => #[.func (.yield l) #[] #[], .pointer (some ⟨B1, 0, none⟩), .pointer (some ⟨B2, 0, none⟩), .pointer (some ⟨B3, 0, none⟩), .pointer (some ⟨S, 0, none⟩), s 5, s 6, s 7, s 8, s 9, .int .i64 (R : Int), s 11, s 12, s 13, s 14, s 15, s 16, s 17, s 18, s 19, s 20, s 21, s 22, s 23, s 24, s 25, s 26, s 27, s 28, s 29, s 30, s 31, s 32, s 33, s 34, s 35, s 36, s 37, s 38, s 39, s 40, s 41, s 42, s 43, s 44, s 45, s 46, s 47, s 48, s 49, s 50, s 51, s 52, s 53, s 54, s 55, s 56, s 57, s 58]) (fun s => R - (intOf (s 11)).toNat) ⟨0, [], Nat.zero_le _, rfl, rfl, by rw [Nat.zero_mul]; exact HJ1, F1⟩ rfl ?_
 rintro s0 wr ds ⟨a, Ds, ha, h7, rfl, HJA, F2⟩
 clear F1 HJ1
 obtain ⟨wo, rfl⟩ : ∃ x : World, x = wr := ⟨_, rfl⟩
 (try dsimp only)
 rw [h7]
 have H70 := Lib.hid h7
 clear h7
 by_cases hlt : a < R
 ·skip
  have hai : (a : Int) < (R : Int) := by omega
  have HLT := Lib.hid hlt
  obtain ⟨hsA, hbA, _, _, hiA, _⟩ := HJB.out _ 0 0 wo HJA.out
  go_upto_region 4 with fail
  obtain ⟨Yn, hYn⟩ : ∃ x, wo.heap.size = x := ⟨_, rfl⟩
  try rw [hYn]
  have F3 := Lib.hid ((F2.out.box1 (b := Yn) hYn [.int .i64 (a : Int)] 3).re)
  simp only [List.nil_append, List.cons_append] at F3
  have HB3 : Hid (Below S wo (wo.alloc (.cells #[.int .i64 (a : Int)] 3))) := Lib.hid ((Below.refl _ _).alloc hsA _)
  obtain ⟨W3, hW3⟩ : ∃ x, wo.alloc (.cells #[.int .i64 (a : Int)] 3) = x := ⟨_, rfl⟩
  rw [hW3] at F3 HB3 ⊢
  have HJ3 := Lib.hid (HJ.out _ 0 0 _ _ HJA.out HB3.out)
  clear hW3 hYn F2 HJA hbA hiA hsA HB3
  obtain ⟨hs3, hb3, _, _, hi3, _⟩ := HJB.out _ 0 0 W3 HJ3.out
  have y0 := hb3.cell 0 _ rfl
  obtain ⟨b9, o9, he, _, hcx⟩ := hi3.cell 1 (by omega)
  cases he
  rw [HX1.out] at hcx
  have g0 := HXL.out.1
  clear hb3 hi3 hs3
  go_wp2
  clear y0 hcx g0 hai
  refine wp_loopF (fun s w' ds => ∃ (k : Nat) (Ds : List Nat), k ≤ C ∧ s 17 = .int .i64 (k : Int) ∧ ds = mkD Ds ∧ Hid (J (a * C + k) 0 0 w') ∧ Hid (Fr S w' w' [(S, [.func (.yield l) #[] #[]]), (Yn, [.int .i64 (a : Int)])] [] [] (mkM Ds))) (fun s => #[.func (.yield l) #[] #[], .pointer (some ⟨B1, 0, none⟩), .pointer (some ⟨B2, 0, none⟩), .pointer (some ⟨B3, 0, none⟩), .pointer (some ⟨S, 0, none⟩), .pointer (some ⟨Yn, 0, none⟩), s 6, s 7, s 8, s 9, .int .i64 (R : Int), .int .i64 (a : Int), s 12, s 13, s 14, s 15, .int .i64 (C : Int), s 17, s 18, s 19, s 20, s 21, s 22, s 23, s 24, s 25, s 26, s 27, s 28, s 29, s 30, s 31, s 32, s 33, s 34, s 35, s 36, s 37, s 38, s 39, s 40, s 41, s 42, s 43, s 44, s 45, s 46, s 47, s 48, s 49, s 50, s 51, s 52, s 53, s 54, s 55, s 56, s 57, s 58]) (fun s => C - (intOf (s 17)).toNat) ⟨0, Ds, Nat.zero_le _, rfl, rfl, HJ3, F3⟩ rfl ?_
  clear F3 HJ3
  clear Ds
  rintro s wr ds ⟨k, Ds, hk, h7, rfl, HJA, F2⟩
  obtain ⟨wi, rfl⟩ : ∃ x : World, x = wr := ⟨_, rfl⟩
  (try dsimp only)
  rw [h7]
  have H7 := Lib.hid h7
  clear h7
  by_cases hlk : k < C
  ·skip
   have hki : (k : Int) < (C : Int) := by omega
   have HLK := Lib.hid hlk
   obtain ⟨hsA, _, hbA, _, _, hwA⟩ := HJB.out _ 0 0 wi HJA.out
   obtain ⟨nC, hnC⟩ : ∃ z, a * C = z := ⟨_, rfl⟩
   rw [hnC] at HJA
   obtain ⟨m, hm⟩ : ∃ z, nC + k = z := ⟨_, rfl⟩
   rw [hm] at HJA
   have HMB := Lib.hid (show m < R * C by have h := Nat.mul_le_mul_right C (show a + 1 ≤ R by omega); rw [Nat.succ_mul] at h; omega)
   have HNC := Lib.hid hnC
   have HMD := Lib.hid hm
   clear hnC hm
   go_upto_region 7 with fail
   obtain ⟨Yk, hYk⟩ : ∃ x, wi.heap.size = x := ⟨_, rfl⟩
   try rw [hYk]
   have F3 := Lib.hid ((F2.out.box1 (b := Yk) hYk [.int .i64 (k : Int)] 3).re)
   simp only [List.nil_append, List.cons_append] at F3
   have HB3 : Hid (Below S wi (wi.alloc (.cells #[.int .i64 (k : Int)] 3))) := Lib.hid ((Below.refl _ _).alloc hsA _)
   obtain ⟨W3, hW3⟩ : ∃ x, wi.alloc (.cells #[.int .i64 (k : Int)] 3) = x := ⟨_, rfl⟩
   rw [hW3] at F3 HB3 ⊢
   have HJ3 := Lib.hid (HJ.out _ 0 0 _ _ HJA.out HB3.out)
   clear hW3 hYk F2 HJA hbA hwA hsA HB3
   obtain ⟨hs3, _, hb3, _, _, _⟩ := HJB.out _ 0 0 W3 HJ3.out
   have y0 := hb3.cell 0 _ rfl
   have y1 := hb3.cell 1 _ rfl
   have y2 := hb3.cell 2 _ rfl
   have y3 := hb3.cell 3 _ rfl
   have y4 := hb3.cell 4 _ rfl
   have y5 := hb3.cell 5 _ rfl
   have y6 := hb3.cell 6 _ rfl
   clear hb3
   go_upto_block 4 with (first | (go_at_call 85; refine (allW_any aL aK aO aQ aS aP aD cL cK cO cQ cS cP cD Q wv _).mono ?_; rintro e w4 ⟨rfl, hf⟩; have HB4 := Lib.hid hf.bel; have F4 := Lib.hid (F3.out.join2 hf).re; simp only [List.nil_append, List.cons_append, List.append_nil] at F4; clear hf F3 y0 y1 y2 y3 y4 y5 y6) | fail)
   obtain ⟨X1, hX1⟩ : ∃ x, W3.heap.size = x := ⟨_, rfl⟩
   rw [hX1] at F4 hs3 ⊢
   have HJ4 := Lib.hid (HJ.out _ 0 0 _ _ HJ3.out (HB4.out.mono (by rw [hX1]; exact hs3)))
   clear hX1 HJ3 HB4
   obtain ⟨D, hD⟩ : ∃ D, w4.heap.size = D := ⟨_, rfl⟩
   have hSD : S + 1 ≤ D := by have := (F4.out.bl 0 rfl).2; omega
   go_wp2
   refine wpIn_wide.1 (wpIn_rangeFunc_any (n := n) rfl (by omega) (gf := 105) (lb := #[.pointer (some ⟨X1, 0, none⟩)]) rfl trivial (enters_of Try.func105 (by kernel_rfl) rfl) D hD
    (fun W2 => J m N 0 W2 ∧ ∃ o, Hid (Fr S W2 W2 [(S, [.func (.yield l) #[] #[]]), (Yn, [.int .i64 (a : Int)]), (Yk, [.int .i64 (k : Int)]), (X1, [.slice aL wv.L.length cL, .slice aK wv.K.length cK, .slice aO wv.O.length cO, .slice aQ Q.length cQ, .slice aS wv.S.length cS, .slice aP wv.P.length cP, .slice aD wv.D.length cD])] [] [] ((D + 1, o) :: (D, .deferred (some [])) :: mkM Ds))) (fun _ _ => False) ?hcall ?hdone ?hstop)
   case hstop =>
    intro cc W2 o ho hf
    exact hf.elim
   case hcall =>
    intro fn9 R9 hfn hR9
    have HR9 := Lib.hid hR9
    clear hR9
    have F5 := Lib.hid (((F4.out.recM hD (.deferred (some [])) rfl).frontM.recM (b := D + 1) (by simp [hD]) (.loop (R9 .ready none)) rfl).frontM).re
    have HB5 : Hid (Below S w4 ((w4.alloc (.deferred (some []))).alloc (.loop (R9 .ready none)))) := Lib.hid (((Below.refl _ _).alloc (by omega) _).alloc (by simp; omega) _)
    have hsz5 : ((w4.alloc (.deferred (some []))).alloc (.loop (R9 .ready none))).heap.size = D + 2 := by simp [hD]
    obtain ⟨W5, hW5⟩ : ∃ x, ((w4.alloc (.deferred (some []))).alloc (.loop (R9 .ready none))) = x := ⟨_, rfl⟩
    rw [hW5] at F5 HB5 hsz5 ⊢
    have HJ5 := Lib.hid (HJ.out m 0 0 _ _ HJ4.out HB5.out)
    clear hW5 F4 HJ4 HB5
    have HF5 := Lib.hid (FrS.of F5.out (fun p hp => (Array.getElem?_eq_some_iff.1 (F5.out.obj p hp).1).1))
    rw [hsz5] at HF5
    refine (winIter (n - 1) (by omega) (D + 1) X1 N T (D + 2) aL aK aO aQ aS aP aD cL cK cO cQ cS cP cD Q wv W5 hsz5 (fun p t V => J m p t V ∧ FrS (D + 2) S V V [(S, [.func (.yield l) #[] #[]]), (Yn, [.int .i64 (a : Int)]), (Yk, [.int .i64 (k : Int)]), (X1, [.slice aL wv.L.length cL, .slice aK wv.K.length cK, .slice aO wv.O.length cO, .slice aQ Q.length cQ, .slice aS wv.S.length cS, .slice aP wv.P.length cP, .slice aD wv.D.length cD])] [] [] ((D + 1, .loop (R9 .ready none)) :: (D, .deferred (some [])) :: mkM Ds)) HR.out HOK.out HRL.out HGO.out HGK.out HN.out HT.out ?hJ ?hJB ?hskip ?hnext ?hY ⟨HJ5.out, HF5.out⟩).mono ?post
    case post =>
     rintro e V ⟨hv, h⟩
     exact ⟨hv, .inl ⟨⟨h.1, _, Lib.hid h.2.fr⟩, h.2.fr.m 0 rfl⟩⟩
    case hJ =>
     rintro p t V1 V2 ⟨j1, j2⟩ hb
     exact ⟨HJ.out m p t _ _ j1 (hb.mono (by omega)), frs_re (j2.below hb)⟩
    case hJB =>
     rintro p t V ⟨j1, j2⟩
     exact ⟨j2.sz, (j2.fr.box _ (List.mem_of_getElem? (i := 3) rfl)).1, (HJB.out m p t _ j1).2.2.2.2.2.mono (by omega)⟩
    case hskip =>
     rintro p t V1 hp ht hf ⟨j1, j2⟩
     exact ⟨HSK.out m p t V1 HMB.out hp ht hf j1, j2⟩
    case hnext =>
     rintro p V1 hp ⟨j1, j2⟩
     exact ⟨HNX.out m p V1 HMB.out hp j1, j2⟩
    case hY =>
     rintro p t V1 hp ht htw ⟨j1, j2⟩
     have hsz1 := (HJB.out m p t _ j1).1
     have hyy := fun W1 h => HY.out m p t W1 HMB.out hp ht htw h
     have hwib := WinV.wI_bound HR.out htw
     rw [HM.out] at hwib
     obtain ⟨z9, hz9⟩ : ∃ z : Nat, wv.wI p t = (z : Int) := ⟨(wv.wI p t).toNat, by omega⟩
     rw [hz9, Int.toNat_natCast] at hyy
     rw [hz9] at hwib ⊢
     obtain ⟨mT, qmT⟩ : ∃ z : Nat, m * T = z := ⟨_, rfl⟩
     rw [qmT] at hyy
     obtain ⟨mt, qmt⟩ : ∃ z : Nat, mT + t = z := ⟨_, rfl⟩
     rw [qmt] at hyy
     obtain ⟨mN, qmN⟩ : ∃ z : Nat, mt * N = z := ⟨_, rfl⟩
     rw [qmN] at hyy
     obtain ⟨col, qcol⟩ : ∃ z : Nat, mN + p = z := ⟨_, rfl⟩
     rw [qcol] at hyy
     obtain ⟨mM, qmM⟩ : ∃ z : Nat, m * M = z := ⟨_, rfl⟩
     rw [qmM] at hyy
     obtain ⟨at9, qat9⟩ : ∃ z : Nat, mM + z9 = z := ⟨_, rfl⟩
     rw [qat9] at hyy
     obtain ⟨b1, b2, b3, b4, b5⟩ := HBC.out
     have hBD := each_bound HMB.out hp ht (show z9 < M by omega) b1 b2
     rw [qmT, qmt, qmN, qcol, qmM, qat9] at hBD
     have hMB9 : m < 65536 := Nat.lt_of_lt_of_le HMB.out b5
     have E0 := Lib.hid (show IntKind.i64.wrap ((a : Int) * (C : Int)) = (nC : Int) by rw [show ((a : Int) * (C : Int)) = ((nC : Nat) : Int) by rw [← HNC.out, Int.natCast_mul]]; exact IntWalk.i64_in _ (by have h := hBD; have h2 := HMD.out; omega))
     have E1 := Lib.hid (show IntKind.i64.wrap ((nC : Int) + (k : Int)) = (m : Int) by rw [show ((nC : Int) + (k : Int)) = ((m : Nat) : Int) by rw [← HMD.out]; rfl]; exact IntWalk.i64_in _ (by have h := hBD; have h2 := HMD.out; omega))
     have E2 := Lib.hid (show IntKind.i64.wrap ((m : Int) * (T : Int)) = (mT : Int) by rw [show ((m : Int) * (T : Int)) = ((mT : Nat) : Int) by rw [← qmT, Int.natCast_mul]]; exact IntWalk.i64_in _ (by have h := hBD; have h2 := HMD.out; omega))
     have E3 := Lib.hid (show IntKind.i64.wrap ((mT : Int) + (t : Int)) = (mt : Int) by rw [show ((mT : Int) + (t : Int)) = ((mt : Nat) : Int) by rw [← qmt]; rfl]; exact IntWalk.i64_in _ (by have h := hBD; have h2 := HMD.out; omega))
     have E4 := Lib.hid (show IntKind.i64.wrap ((mt : Int) * (N : Int)) = (mN : Int) by rw [show ((mt : Int) * (N : Int)) = ((mN : Nat) : Int) by rw [← qmN, Int.natCast_mul]]; exact IntWalk.i64_in _ (by have h := hBD; have h2 := HMD.out; omega))
     have E5 := Lib.hid (show IntKind.i64.wrap ((mN : Int) + (p : Int)) = (col : Int) by rw [show ((mN : Int) + (p : Int)) = ((col : Nat) : Int) by rw [← qcol]; rfl]; exact IntWalk.i64_in _ (by have h := hBD; have h2 := HMD.out; omega))
     have E6 := Lib.hid (show IntKind.i64.wrap ((m : Int) * (M : Int)) = (mM : Int) by rw [show ((m : Int) * (M : Int)) = ((mM : Nat) : Int) by rw [← qmM, Int.natCast_mul]]; exact IntWalk.i64_in _ (by have h := hBD; have h2 := HMD.out; omega))
     have E7 := Lib.hid (show IntKind.i64.wrap ((mM : Int) + (z9 : Int)) = (at9 : Int) by rw [show ((mM : Int) + (z9 : Int)) = ((at9 : Nat) : Int) by rw [← qat9]; rfl]; exact IntWalk.i64_in _ (by have h := hBD; have h2 := HMD.out; omega))
     have HYY := Lib.hid hyy
     clear hyy hz9 hwib qmT qmt qmN qcol qmM qat9 b1 b2 b3 b4 b5 hBD hMB9 hp ht htw
     refine yieldAt_roundR hfn HR9.out (j2.fr.m 0 rfl) rfl ?_
     obtain ⟨Y, hY2⟩ : ∃ x, V1.heap.size = x := ⟨_, rfl⟩
     have J2 := Lib.hid ((j2.fr.box1 (b := Y) hY2 [.int .i64 (p : Int), .int .i64 (t : Int), .int .i64 (z9 : Int)] 76).re)
     simp only [List.nil_append, List.cons_append] at J2
     have HBA : Hid (Below S V1 (V1.alloc (.cells #[.int .i64 (p : Int), .int .i64 (t : Int), .int .i64 (z9 : Int)] 76))) := Lib.hid ((Below.refl _ _).alloc hsz1 _)
     have HKA : Hid (Kept (D + 2) V1 (V1.alloc (.cells #[.int .i64 (p : Int), .int .i64 (t : Int), .int .i64 (z9 : Int)] 76))) := Lib.hid (Kept.of_below ((Below.refl V1.heap.size V1).alloc (Nat.le_refl _) _))
     obtain ⟨VA, hVA⟩ : ∃ x, V1.alloc (.cells #[.int .i64 (p : Int), .int .i64 (t : Int), .int .i64 (z9 : Int)] 76) = x := ⟨_, rfl⟩
     rw [hVA] at J2 HBA HKA
     have HVA := Lib.hid hVA
     have J1 := Lib.hid (HJ.out m p t _ _ j1 HBA.out)
     have HJF := Lib.hid j2
     have HSZ := Lib.hid hsz1
     clear j1 j2 hfn HJ5 F5 HF5 HBA hVA hsz1
     gi_wp2
     rw [HVA.out]
     refine ⟨J2.out.m 0 rfl, ?_⟩
     have hszA := (HJB.out m p t _ J1.out).1
     have K1 := Lib.hid (HJ.out m p t _ _ J1.out (below_putObj S VA (D + 1) (.loop (R9 .busy none)) (by omega) hszA))
     have G1 := Lib.hid (J2.out.putM 0 rfl (.loop (R9 .busy none)) rfl).re
     simp only [List.set_cons_zero, List.set_cons_succ] at G1
     have HKP := Lib.hid (HKA.out.trans (Kept.putObj (D + 2) VA (D + 1) (.loop (R9 .busy none)) (by omega)))
     obtain ⟨V, hV⟩ : ∃ V, VA.putObj (D + 1) (.loop (R9 .busy none)) = V := ⟨_, rfl⟩
     rw [hV] at G1 K1 HKP ⊢
     clear hV J2 J1 HVA HKA hszA
     have HSV := Lib.hid (HJB.out m p t _ K1.out).1
     (repeat gi_step)
     refine wpIn_region_parts2 (w := V) 32 2 none [] [(fun u _ => u = .func (.yield l) #[] #[]), (fun u _ => u = .int .i64 (a : Int)), (fun u _ => u = .slice (some ⟨gX, oX, none⟩) xs.length cX), (fun u _ => u = .pointer (some ⟨gX, oX + 1, none⟩)), (fun u _ => u = .int .i64 (C : Int)), (fun u _ => u = .int .i64 (nC : Int)), (fun u _ => u = .int .i64 (k : Int)), (fun u _ => u = .int .i64 (m : Int)), (fun u _ => u = .agg #[.slice aL wv.L.length cL, .slice aK wv.K.length cK, .slice aO wv.O.length cO, .slice aQ Q.length cQ, .slice aS wv.S.length cS, .slice aP wv.P.length cP, .slice aD wv.D.length cD]), (fun u _ => u = .int .i64 (T : Int)), (fun u _ => u = .int .i64 (mT : Int)), (fun u _ => u = .pointer (some ⟨Y, 1, none⟩)), (fun u _ => u = .int .i64 (t : Int)), (fun u _ => u = .int .i64 (mt : Int)), (fun u _ => u = .agg #[.slice aL wv.L.length cL, .slice aK wv.K.length cK, .slice aO wv.O.length cO, .slice aQ Q.length cQ, .slice aS wv.S.length cS, .slice aP wv.P.length cP, .slice aD wv.D.length cD]), (fun u _ => u = .int .i64 (N : Int)), (fun u _ => u = .int .i64 (mN : Int)), (fun u _ => u = .pointer (some ⟨Y, 0, none⟩)), (fun u _ => u = .int .i64 (p : Int)), (fun u _ => u = .int .i64 (col : Int)), (fun u _ => u = .int .i64 (a : Int)), (fun u _ => u = .slice (some ⟨gX, oX, none⟩) xs.length cX), (fun u _ => u = .pointer (some ⟨gX, oX + 1, none⟩)), (fun u _ => u = .int .i64 (C : Int)), (fun u _ => u = .int .i64 (nC : Int)), (fun u _ => u = .int .i64 (k : Int)), (fun u _ => u = .int .i64 (m : Int)), (fun u _ => u = .int .i64 (M : Int)), (fun u _ => u = .int .i64 (mM : Int)), (fun u _ => u = .pointer (some ⟨Y, 2, none⟩)), (fun u _ => u = .int .i64 (z9 : Int)), (fun u _ => u = .int .i64 (at9 : Int))] [some 23, some 24, some 25, some 26, some 27, some 28, some 29, some 30, some 31, some 32, some 33, some 34, some 35, some 36, some 37, some 38, some 39, some 40, some 41, some 42, some 43, some 44, some 45, some 46, some 47, some 48, some 49, some 50, some 51, some 52, some 53, some 54, some 55, some 56] #[true, true, true, true, true, true, true, true, true, true, true, true, true, true, true, true, true, true, true, true, true, true, true, true, true, true, true, true, true, true, true, true, false, false] #[true, true, true, true, true, true, true, true, true, true, true, true, true, true, true, true, true, true, true, true, true, true, true, true, true, true, true, true, true, true, true, true, false, false] (by kernel_rfl) rfl (by kernel_rfl) (by kernel_rfl) rfl (by kernel_rfl) (by kernel_rfl) (.cons (carries_eq _) (.cons (carries_eq _) (.cons (carries_eq _) (.cons (carries_eq _) (.cons (carries_eq _) (.cons (carries_eq _) (.cons (carries_eq _) (.cons (carries_eq _) (.cons (carries_eq _) (.cons (carries_eq _) (.cons (carries_eq _) (.cons (carries_eq _) (.cons (carries_eq _) (.cons (carries_eq _) (.cons (carries_eq _) (.cons (carries_eq _) (.cons (carries_eq _) (.cons (carries_eq _) (.cons (carries_eq _) (.cons (carries_eq _) (.cons (carries_eq _) (.cons (carries_eq _) (.cons (carries_eq _) (.cons (carries_eq _) (.cons (carries_eq _) (.cons (carries_eq _) (.cons (carries_eq _) (.cons (carries_eq _) (.cons (carries_eq _) (.cons (carries_eq _) (.cons (carries_eq _) (.cons (carries_eq _) .nil)))))))))))))))))))))))))))))))) (fun vs b hvl hvb => ?_)
     obtain ⟨x0, x1, x2, x3, x4, x5, x6, x7, x8, x9, x10, x11, x12, x13, x14, x15, x16, x17, x18, x19, x20, x21, x22, x23, x24, x25, x26, x27, x28, x29, x30, x31, x32, x33, rfl⟩ : ∃ x0 x1 x2 x3 x4 x5 x6 x7 x8 x9 x10 x11 x12 x13 x14 x15 x16 x17 x18 x19 x20 x21 x22 x23 x24 x25 x26 x27 x28 x29 x30 x31 x32 x33, vs = [x0, x1, x2, x3, x4, x5, x6, x7, x8, x9, x10, x11, x12, x13, x14, x15, x16, x17, x18, x19, x20, x21, x22, x23, x24, x25, x26, x27, x28, x29, x30, x31, x32, x33] := lw34 hvl
     clear hvl
     simp only [putAll, Act.put, List.setIfInBounds_toArray, List.set_cons_zero, List.set_cons_succ] at hvb
     subst hvb
     refine ⟨(.snoc (.snoc (.snoc (.snoc (.snoc (.snoc (.snoc (.snoc (.snoc (.snoc (.snoc (.snoc (.snoc (.snoc (.snoc (.snoc (.snoc (.snoc (.snoc (.snoc (.snoc (.snoc (.snoc (.snoc (.snoc (.snoc (.snoc (.snoc (.snoc (.snoc (.snoc (.snoc .zero (PartObIn.intro (d := (some 23)) (r := fun u _ => u = .func (.yield l) #[] #[]) rfl rfl rfl rfl ?po9x0)) (PartObIn.intro (d := (some 24)) (r := fun u _ => u = .int .i64 (a : Int)) rfl rfl rfl rfl ?po9x1)) (PartObIn.intro (d := (some 25)) (r := fun u _ => u = .slice (some ⟨gX, oX, none⟩) xs.length cX) rfl rfl rfl rfl ?po9x2)) (PartObIn.intro (d := (some 26)) (r := fun u _ => u = .pointer (some ⟨gX, oX + 1, none⟩)) rfl rfl rfl rfl ?po9x3)) (PartObIn.intro (d := (some 27)) (r := fun u _ => u = .int .i64 (C : Int)) rfl rfl rfl rfl ?po9x4)) (PartObIn.intro (d := (some 28)) (r := fun u _ => u = .int .i64 (nC : Int)) rfl rfl rfl rfl ?po9x5)) (PartObIn.intro (d := (some 29)) (r := fun u _ => u = .int .i64 (k : Int)) rfl rfl rfl rfl ?po9x6)) (PartObIn.intro (d := (some 30)) (r := fun u _ => u = .int .i64 (m : Int)) rfl rfl rfl rfl ?po9x7)) (PartObIn.intro (d := (some 31)) (r := fun u _ => u = .agg #[.slice aL wv.L.length cL, .slice aK wv.K.length cK, .slice aO wv.O.length cO, .slice aQ Q.length cQ, .slice aS wv.S.length cS, .slice aP wv.P.length cP, .slice aD wv.D.length cD]) rfl rfl rfl rfl ?po9x8)) (PartObIn.intro (d := (some 32)) (r := fun u _ => u = .int .i64 (T : Int)) rfl rfl rfl rfl ?po9x9)) (PartObIn.intro (d := (some 33)) (r := fun u _ => u = .int .i64 (mT : Int)) rfl rfl rfl rfl ?po9x10)) (PartObIn.intro (d := (some 34)) (r := fun u _ => u = .pointer (some ⟨Y, 1, none⟩)) rfl rfl rfl rfl ?po9x11)) (PartObIn.intro (d := (some 35)) (r := fun u _ => u = .int .i64 (t : Int)) rfl rfl rfl rfl ?po9x12)) (PartObIn.intro (d := (some 36)) (r := fun u _ => u = .int .i64 (mt : Int)) rfl rfl rfl rfl ?po9x13)) (PartObIn.intro (d := (some 37)) (r := fun u _ => u = .agg #[.slice aL wv.L.length cL, .slice aK wv.K.length cK, .slice aO wv.O.length cO, .slice aQ Q.length cQ, .slice aS wv.S.length cS, .slice aP wv.P.length cP, .slice aD wv.D.length cD]) rfl rfl rfl rfl ?po9x14)) (PartObIn.intro (d := (some 38)) (r := fun u _ => u = .int .i64 (N : Int)) rfl rfl rfl rfl ?po9x15)) (PartObIn.intro (d := (some 39)) (r := fun u _ => u = .int .i64 (mN : Int)) rfl rfl rfl rfl ?po9x16)) (PartObIn.intro (d := (some 40)) (r := fun u _ => u = .pointer (some ⟨Y, 0, none⟩)) rfl rfl rfl rfl ?po9x17)) (PartObIn.intro (d := (some 41)) (r := fun u _ => u = .int .i64 (p : Int)) rfl rfl rfl rfl ?po9x18)) (PartObIn.intro (d := (some 42)) (r := fun u _ => u = .int .i64 (col : Int)) rfl rfl rfl rfl ?po9x19)) (PartObIn.intro (d := (some 43)) (r := fun u _ => u = .int .i64 (a : Int)) rfl rfl rfl rfl ?po9x20)) (PartObIn.intro (d := (some 44)) (r := fun u _ => u = .slice (some ⟨gX, oX, none⟩) xs.length cX) rfl rfl rfl rfl ?po9x21)) (PartObIn.intro (d := (some 45)) (r := fun u _ => u = .pointer (some ⟨gX, oX + 1, none⟩)) rfl rfl rfl rfl ?po9x22)) (PartObIn.intro (d := (some 46)) (r := fun u _ => u = .int .i64 (C : Int)) rfl rfl rfl rfl ?po9x23)) (PartObIn.intro (d := (some 47)) (r := fun u _ => u = .int .i64 (nC : Int)) rfl rfl rfl rfl ?po9x24)) (PartObIn.intro (d := (some 48)) (r := fun u _ => u = .int .i64 (k : Int)) rfl rfl rfl rfl ?po9x25)) (PartObIn.intro (d := (some 49)) (r := fun u _ => u = .int .i64 (m : Int)) rfl rfl rfl rfl ?po9x26)) (PartObIn.intro (d := (some 50)) (r := fun u _ => u = .int .i64 (M : Int)) rfl rfl rfl rfl ?po9x27)) (PartObIn.intro (d := (some 51)) (r := fun u _ => u = .int .i64 (mM : Int)) rfl rfl rfl rfl ?po9x28)) (PartObIn.intro (d := (some 52)) (r := fun u _ => u = .pointer (some ⟨Y, 2, none⟩)) rfl rfl rfl rfl ?po9x29)) (PartObIn.intro (d := (some 53)) (r := fun u _ => u = .int .i64 (z9 : Int)) rfl rfl rfl rfl ?po9x30)) (PartObIn.intro (d := (some 54)) (r := fun u _ => u = .int .i64 (at9 : Int)) rfl rfl rfl rfl ?po9x31)), ?pend9, ?pfl9⟩
     case po9x0 =>
      intro w1 hb1 hd KK hK
      clear hd
      have hF := G1.out.next hb1
      have k0 := hF.c 0 0 rfl rfl
      simp only [Act.put, List.setIfInBounds_toArray, List.set_cons_zero, List.set_cons_succ] at hK
      go_simp
      first | exact hK.out _ _ (Below.refl _ _) rfl | (have hk := hK.out _ _ (Below.refl _ _) rfl; revert hk; go_simp)
     case po9x1 =>
      intro w1 hb1 hd KK hK
      clear hd
      have hF := G1.out.next hb1
      have k0 := hF.c 1 0 rfl rfl
      simp only [Act.put, List.setIfInBounds_toArray, List.set_cons_zero, List.set_cons_succ] at hK
      go_simp
      first | exact hK.out _ _ (Below.refl _ _) rfl | (have hk := hK.out _ _ (Below.refl _ _) rfl; revert hk; go_simp)
     case po9x2 =>
      intro w1 hb1 hd KK hK
      clear hd
      obtain ⟨_, bx1, bx2, bx3, bxI, bxW⟩ := HJB.out m p t w1 (HJ.out m p t V w1 K1.out (hb1.mono HSV.out))
      have k0 := bx1.cell 0 _ rfl
      clear bx1 bx2 bx3 bxI bxW
      simp only [Act.put, List.setIfInBounds_toArray, List.set_cons_zero, List.set_cons_succ] at hK
      go_simp
      first | exact hK.out _ _ (Below.refl _ _) rfl | (have hk := hK.out _ _ (Below.refl _ _) rfl; revert hk; go_simp)
     case po9x3 =>
      intro w1 hb1 hd KK hK
      have d2 : x2 = .slice (some ⟨gX, oX, none⟩) xs.length cX := hd 2 (by kernel_rfl)
      clear hd
      subst d2
      obtain ⟨g0, g1, g1i, g2, g3⟩ := HXL.out
      simp only [Act.put, List.setIfInBounds_toArray, List.set_cons_zero, List.set_cons_succ] at hK
      go_simp
      first | exact hK.out _ _ (Below.refl _ _) rfl | (have hk := hK.out _ _ (Below.refl _ _) rfl; revert hk; go_simp)
     case po9x4 =>
      intro w1 hb1 hd KK hK
      have d3 : x3 = .pointer (some ⟨gX, oX + 1, none⟩) := hd 3 (by kernel_rfl)
      clear hd
      subst d3
      obtain ⟨_, bx1, bx2, bx3, bxI, bxW⟩ := HJB.out m p t w1 (HJ.out m p t V w1 K1.out (hb1.mono HSV.out))
      obtain ⟨b9, o9, he, _, hcx⟩ := bxI.cell 1 (by have h := HXL.out.2.2.2.2; omega)
      cases he
      rw [HX1.out] at hcx
      clear bx1 bx2 bx3 bxI bxW
      simp only [Act.put, List.setIfInBounds_toArray, List.set_cons_zero, List.set_cons_succ] at hK
      go_simp
      first | exact hK.out _ _ (Below.refl _ _) rfl | (have hk := hK.out _ _ (Below.refl _ _) rfl; revert hk; go_simp)
     case po9x5 =>
      intro w1 hb1 hd KK hK
      have d1 : x1 = .int .i64 (a : Int) := hd 1 (by kernel_rfl)
      have d4 : x4 = .int .i64 (C : Int) := hd 4 (by kernel_rfl)
      clear hd
      subst d1
      subst d4
      have dx := E0.out
      simp only [Act.put, List.setIfInBounds_toArray, List.set_cons_zero, List.set_cons_succ] at hK
      go_simp
      first | exact hK.out _ _ (Below.refl _ _) rfl | (have hk := hK.out _ _ (Below.refl _ _) rfl; revert hk; go_simp)
     case po9x6 =>
      intro w1 hb1 hd KK hK
      clear hd
      have hF := G1.out.next hb1
      have k0 := hF.c 2 0 rfl rfl
      simp only [Act.put, List.setIfInBounds_toArray, List.set_cons_zero, List.set_cons_succ] at hK
      go_simp
      first | exact hK.out _ _ (Below.refl _ _) rfl | (have hk := hK.out _ _ (Below.refl _ _) rfl; revert hk; go_simp)
     case po9x7 =>
      intro w1 hb1 hd KK hK
      have d5 : x5 = .int .i64 (nC : Int) := hd 5 (by kernel_rfl)
      have d6 : x6 = .int .i64 (k : Int) := hd 6 (by kernel_rfl)
      clear hd
      subst d5
      subst d6
      have dx := E1.out
      simp only [Act.put, List.setIfInBounds_toArray, List.set_cons_zero, List.set_cons_succ] at hK
      go_simp
      first | exact hK.out _ _ (Below.refl _ _) rfl | (have hk := hK.out _ _ (Below.refl _ _) rfl; revert hk; go_simp)
     case po9x8 =>
      intro w1 hb1 hd KK hK
      clear hd
      obtain ⟨_, bx1, bx2, bx3, bxI, bxW⟩ := HJB.out m p t w1 (HJ.out m p t V w1 K1.out (hb1.mono HSV.out))
      have k0 := bx2.cell 0 _ rfl
      have k1 := bx2.cell 1 _ rfl
      have k2 := bx2.cell 2 _ rfl
      have k3 := bx2.cell 3 _ rfl
      have k4 := bx2.cell 4 _ rfl
      have k5 := bx2.cell 5 _ rfl
      have k6 := bx2.cell 6 _ rfl
      clear bx1 bx2 bx3 bxI bxW
      simp only [Act.put, List.setIfInBounds_toArray, List.set_cons_zero, List.set_cons_succ] at hK
      go_simp
      first | exact hK.out _ _ (Below.refl _ _) rfl | (have hk := hK.out _ _ (Below.refl _ _) rfl; revert hk; go_simp)
     case po9x9 =>
      intro w1 hb1 hd KK hK
      have d8 : x8 = .agg #[.slice aL wv.L.length cL, .slice aK wv.K.length cK, .slice aO wv.O.length cO, .slice aQ Q.length cQ, .slice aS wv.S.length cS, .slice aP wv.P.length cP, .slice aD wv.D.length cD] := hd 8 (by kernel_rfl)
      clear hd
      subst d8
      obtain ⟨_, bx1, bx2, bx3, bxI, bxW⟩ := HJB.out m p t w1 (HJ.out m p t V w1 K1.out (hb1.mono HSV.out))
      have hcc := winTaps_any aL aK aO aQ aS aP aD cL cK cO cQ cS cP cD Q wv w1 (bxW.iK.mono (Nat.le_trans HSV.out hb1.size)) HGK.out
      rw [HT.out] at hcc
      clear bx1 bx2 bx3 bxI bxW
      simp only [Act.put, List.setIfInBounds_toArray, List.set_cons_zero, List.set_cons_succ] at hK
      go_simp
      (repeat gi_step)
      refine ⟨trivial, fun _ => by omega, ?_⟩
      refine ((CallsIn.inRound (D + 1) (callsIn_wide.2 (hcc) : CallsIn Fence.wide (n - 1 - 1 - 1 - 1 - 1) _ _ _ _ _))).mono ?_
      rintro e w2 ⟨rfl, hb⟩
      (try gi_wp2_with fail)
      first | exact hK.out _ _ hb rfl | (have hk := hK.out _ _ hb rfl; revert hk; go_simp)
     case po9x10 =>
      intro w1 hb1 hd KK hK
      have d7 : x7 = .int .i64 (m : Int) := hd 7 (by kernel_rfl)
      have d9 : x9 = .int .i64 (T : Int) := hd 9 (by kernel_rfl)
      clear hd
      subst d7
      subst d9
      have dx := E2.out
      simp only [Act.put, List.setIfInBounds_toArray, List.set_cons_zero, List.set_cons_succ] at hK
      go_simp
      first | exact hK.out _ _ (Below.refl _ _) rfl | (have hk := hK.out _ _ (Below.refl _ _) rfl; revert hk; go_simp)
     case po9x11 =>
      intro w1 hb1 hd KK hK
      clear hd
      simp only [Act.put, List.setIfInBounds_toArray, List.set_cons_zero, List.set_cons_succ] at hK
      go_simp
      first | exact hK.out _ _ (Below.refl _ _) rfl | (have hk := hK.out _ _ (Below.refl _ _) rfl; revert hk; go_simp)
     case po9x12 =>
      intro w1 hb1 hd KK hK
      have d11 : x11 = .pointer (some ⟨Y, 1, none⟩) := hd 11 (by kernel_rfl)
      clear hd
      subst d11
      have hF := G1.out.next hb1
      have k0 := hF.c 4 1 rfl rfl
      simp only [Act.put, List.setIfInBounds_toArray, List.set_cons_zero, List.set_cons_succ] at hK
      go_simp
      first | exact hK.out _ _ (Below.refl _ _) rfl | (have hk := hK.out _ _ (Below.refl _ _) rfl; revert hk; go_simp)
     case po9x13 =>
      intro w1 hb1 hd KK hK
      have d10 : x10 = .int .i64 (mT : Int) := hd 10 (by kernel_rfl)
      have d12 : x12 = .int .i64 (t : Int) := hd 12 (by kernel_rfl)
      clear hd
      subst d10
      subst d12
      have dx := E3.out
      simp only [Act.put, List.setIfInBounds_toArray, List.set_cons_zero, List.set_cons_succ] at hK
      go_simp
      first | exact hK.out _ _ (Below.refl _ _) rfl | (have hk := hK.out _ _ (Below.refl _ _) rfl; revert hk; go_simp)
     case po9x14 =>
      intro w1 hb1 hd KK hK
      clear hd
      obtain ⟨_, bx1, bx2, bx3, bxI, bxW⟩ := HJB.out m p t w1 (HJ.out m p t V w1 K1.out (hb1.mono HSV.out))
      have k0 := bx2.cell 0 _ rfl
      have k1 := bx2.cell 1 _ rfl
      have k2 := bx2.cell 2 _ rfl
      have k3 := bx2.cell 3 _ rfl
      have k4 := bx2.cell 4 _ rfl
      have k5 := bx2.cell 5 _ rfl
      have k6 := bx2.cell 6 _ rfl
      clear bx1 bx2 bx3 bxI bxW
      simp only [Act.put, List.setIfInBounds_toArray, List.set_cons_zero, List.set_cons_succ] at hK
      go_simp
      first | exact hK.out _ _ (Below.refl _ _) rfl | (have hk := hK.out _ _ (Below.refl _ _) rfl; revert hk; go_simp)
     case po9x15 =>
      intro w1 hb1 hd KK hK
      have d9 : x9 = .int .i64 (T : Int) := hd 9 (by kernel_rfl)
      have d14 : x14 = .agg #[.slice aL wv.L.length cL, .slice aK wv.K.length cK, .slice aO wv.O.length cO, .slice aQ Q.length cQ, .slice aS wv.S.length cS, .slice aP wv.P.length cP, .slice aD wv.D.length cD] := hd 14 (by kernel_rfl)
      clear hd
      subst d9
      subst d14
      obtain ⟨_, bx1, bx2, bx3, bxI, bxW⟩ := HJB.out m p t w1 (HJ.out m p t V w1 K1.out (hb1.mono HSV.out))
      have hcc := winPlaces_any aL aK aO aQ aS aP aD cL cK cO cQ cS cP cD Q wv w1 (bxW.iO.mono (Nat.le_trans HSV.out hb1.size)) HGO.out
      rw [HN.out] at hcc
      clear bx1 bx2 bx3 bxI bxW
      simp only [Act.put, List.setIfInBounds_toArray, List.set_cons_zero, List.set_cons_succ] at hK
      go_simp
      (repeat gi_step)
      refine ⟨trivial, fun _ => by omega, ?_⟩
      refine ((CallsIn.inRound (D + 1) (callsIn_wide.2 (hcc) : CallsIn Fence.wide (n - 1 - 1 - 1 - 1 - 1) _ _ _ _ _))).mono ?_
      rintro e w2 ⟨rfl, hb⟩
      (try gi_wp2_with fail)
      first | exact hK.out _ _ hb rfl | (have hk := hK.out _ _ hb rfl; revert hk; go_simp)
     case po9x16 =>
      intro w1 hb1 hd KK hK
      have d13 : x13 = .int .i64 (mt : Int) := hd 13 (by kernel_rfl)
      have d15 : x15 = .int .i64 (N : Int) := hd 15 (by kernel_rfl)
      clear hd
      subst d13
      subst d15
      have dx := E4.out
      simp only [Act.put, List.setIfInBounds_toArray, List.set_cons_zero, List.set_cons_succ] at hK
      go_simp
      first | exact hK.out _ _ (Below.refl _ _) rfl | (have hk := hK.out _ _ (Below.refl _ _) rfl; revert hk; go_simp)
     case po9x17 =>
      intro w1 hb1 hd KK hK
      clear hd
      simp only [Act.put, List.setIfInBounds_toArray, List.set_cons_zero, List.set_cons_succ] at hK
      go_simp
      first | exact hK.out _ _ (Below.refl _ _) rfl | (have hk := hK.out _ _ (Below.refl _ _) rfl; revert hk; go_simp)
     case po9x18 =>
      intro w1 hb1 hd KK hK
      have d17 : x17 = .pointer (some ⟨Y, 0, none⟩) := hd 17 (by kernel_rfl)
      clear hd
      subst d17
      have hF := G1.out.next hb1
      have k0 := hF.c 4 0 rfl rfl
      simp only [Act.put, List.setIfInBounds_toArray, List.set_cons_zero, List.set_cons_succ] at hK
      go_simp
      first | exact hK.out _ _ (Below.refl _ _) rfl | (have hk := hK.out _ _ (Below.refl _ _) rfl; revert hk; go_simp)
     case po9x19 =>
      intro w1 hb1 hd KK hK
      have d16 : x16 = .int .i64 (mN : Int) := hd 16 (by kernel_rfl)
      have d18 : x18 = .int .i64 (p : Int) := hd 18 (by kernel_rfl)
      clear hd
      subst d16
      subst d18
      have dx := E5.out
      simp only [Act.put, List.setIfInBounds_toArray, List.set_cons_zero, List.set_cons_succ] at hK
      go_simp
      first | exact hK.out _ _ (Below.refl _ _) rfl | (have hk := hK.out _ _ (Below.refl _ _) rfl; revert hk; go_simp)
     case po9x20 =>
      intro w1 hb1 hd KK hK
      clear hd
      have hF := G1.out.next hb1
      have k0 := hF.c 1 0 rfl rfl
      simp only [Act.put, List.setIfInBounds_toArray, List.set_cons_zero, List.set_cons_succ] at hK
      go_simp
      first | exact hK.out _ _ (Below.refl _ _) rfl | (have hk := hK.out _ _ (Below.refl _ _) rfl; revert hk; go_simp)
     case po9x21 =>
      intro w1 hb1 hd KK hK
      clear hd
      obtain ⟨_, bx1, bx2, bx3, bxI, bxW⟩ := HJB.out m p t w1 (HJ.out m p t V w1 K1.out (hb1.mono HSV.out))
      have k0 := bx1.cell 0 _ rfl
      clear bx1 bx2 bx3 bxI bxW
      simp only [Act.put, List.setIfInBounds_toArray, List.set_cons_zero, List.set_cons_succ] at hK
      go_simp
      first | exact hK.out _ _ (Below.refl _ _) rfl | (have hk := hK.out _ _ (Below.refl _ _) rfl; revert hk; go_simp)
     case po9x22 =>
      intro w1 hb1 hd KK hK
      have d21 : x21 = .slice (some ⟨gX, oX, none⟩) xs.length cX := hd 21 (by kernel_rfl)
      clear hd
      subst d21
      obtain ⟨g0, g1, g1i, g2, g3⟩ := HXL.out
      simp only [Act.put, List.setIfInBounds_toArray, List.set_cons_zero, List.set_cons_succ] at hK
      go_simp
      first | exact hK.out _ _ (Below.refl _ _) rfl | (have hk := hK.out _ _ (Below.refl _ _) rfl; revert hk; go_simp)
     case po9x23 =>
      intro w1 hb1 hd KK hK
      have d22 : x22 = .pointer (some ⟨gX, oX + 1, none⟩) := hd 22 (by kernel_rfl)
      clear hd
      subst d22
      obtain ⟨_, bx1, bx2, bx3, bxI, bxW⟩ := HJB.out m p t w1 (HJ.out m p t V w1 K1.out (hb1.mono HSV.out))
      obtain ⟨b9, o9, he, _, hcx⟩ := bxI.cell 1 (by have h := HXL.out.2.2.2.2; omega)
      cases he
      rw [HX1.out] at hcx
      clear bx1 bx2 bx3 bxI bxW
      simp only [Act.put, List.setIfInBounds_toArray, List.set_cons_zero, List.set_cons_succ] at hK
      go_simp
      first | exact hK.out _ _ (Below.refl _ _) rfl | (have hk := hK.out _ _ (Below.refl _ _) rfl; revert hk; go_simp)
     case po9x24 =>
      intro w1 hb1 hd KK hK
      have d20 : x20 = .int .i64 (a : Int) := hd 20 (by kernel_rfl)
      have d23 : x23 = .int .i64 (C : Int) := hd 23 (by kernel_rfl)
      clear hd
      subst d20
      subst d23
      have dx := E0.out
      simp only [Act.put, List.setIfInBounds_toArray, List.set_cons_zero, List.set_cons_succ] at hK
      go_simp
      first | exact hK.out _ _ (Below.refl _ _) rfl | (have hk := hK.out _ _ (Below.refl _ _) rfl; revert hk; go_simp)
     case po9x25 =>
      intro w1 hb1 hd KK hK
      clear hd
      have hF := G1.out.next hb1
      have k0 := hF.c 2 0 rfl rfl
      simp only [Act.put, List.setIfInBounds_toArray, List.set_cons_zero, List.set_cons_succ] at hK
      go_simp
      first | exact hK.out _ _ (Below.refl _ _) rfl | (have hk := hK.out _ _ (Below.refl _ _) rfl; revert hk; go_simp)
     case po9x26 =>
      intro w1 hb1 hd KK hK
      have d24 : x24 = .int .i64 (nC : Int) := hd 24 (by kernel_rfl)
      have d25 : x25 = .int .i64 (k : Int) := hd 25 (by kernel_rfl)
      clear hd
      subst d24
      subst d25
      have dx := E1.out
      simp only [Act.put, List.setIfInBounds_toArray, List.set_cons_zero, List.set_cons_succ] at hK
      go_simp
      first | exact hK.out _ _ (Below.refl _ _) rfl | (have hk := hK.out _ _ (Below.refl _ _) rfl; revert hk; go_simp)
     case po9x27 =>
      intro w1 hb1 hd KK hK
      clear hd
      obtain ⟨_, bx1, bx2, bx3, bxI, bxW⟩ := HJB.out m p t w1 (HJ.out m p t V w1 K1.out (hb1.mono HSV.out))
      have k0 := bx3.cell 0 _ rfl
      clear bx1 bx2 bx3 bxI bxW
      simp only [Act.put, List.setIfInBounds_toArray, List.set_cons_zero, List.set_cons_succ] at hK
      go_simp
      first | exact hK.out _ _ (Below.refl _ _) rfl | (have hk := hK.out _ _ (Below.refl _ _) rfl; revert hk; go_simp)
     case po9x28 =>
      intro w1 hb1 hd KK hK
      have d26 : x26 = .int .i64 (m : Int) := hd 26 (by kernel_rfl)
      have d27 : x27 = .int .i64 (M : Int) := hd 27 (by kernel_rfl)
      clear hd
      subst d26
      subst d27
      have dx := E6.out
      simp only [Act.put, List.setIfInBounds_toArray, List.set_cons_zero, List.set_cons_succ] at hK
      go_simp
      first | exact hK.out _ _ (Below.refl _ _) rfl | (have hk := hK.out _ _ (Below.refl _ _) rfl; revert hk; go_simp)
     case po9x29 =>
      intro w1 hb1 hd KK hK
      clear hd
      simp only [Act.put, List.setIfInBounds_toArray, List.set_cons_zero, List.set_cons_succ] at hK
      go_simp
      first | exact hK.out _ _ (Below.refl _ _) rfl | (have hk := hK.out _ _ (Below.refl _ _) rfl; revert hk; go_simp)
     case po9x30 =>
      intro w1 hb1 hd KK hK
      have d29 : x29 = .pointer (some ⟨Y, 2, none⟩) := hd 29 (by kernel_rfl)
      clear hd
      subst d29
      have hF := G1.out.next hb1
      have k0 := hF.c 4 2 rfl rfl
      simp only [Act.put, List.setIfInBounds_toArray, List.set_cons_zero, List.set_cons_succ] at hK
      go_simp
      first | exact hK.out _ _ (Below.refl _ _) rfl | (have hk := hK.out _ _ (Below.refl _ _) rfl; revert hk; go_simp)
     case po9x31 =>
      intro w1 hb1 hd KK hK
      have d28 : x28 = .int .i64 (mM : Int) := hd 28 (by kernel_rfl)
      have d30 : x30 = .int .i64 (z9 : Int) := hd 30 (by kernel_rfl)
      clear hd
      subst d28
      subst d30
      have dx := E7.out
      simp only [Act.put, List.setIfInBounds_toArray, List.set_cons_zero, List.set_cons_succ] at hK
      go_simp
      first | exact hK.out _ _ (Below.refl _ _) rfl | (have hk := hK.out _ _ (Below.refl _ _) rfl; revert hk; go_simp)
     case pfl9 => (intro f hf; cases hf)
     case pend9 =>
     intro w1 hb1 hR hD
     have d0 : x0 = .func (.yield l) #[] #[] := hR 0 (by decide)
     have d1 : x1 = .int .i64 (a : Int) := hR 1 (by decide)
     have d2 : x2 = .slice (some ⟨gX, oX, none⟩) xs.length cX := hR 2 (by decide)
     have d3 : x3 = .pointer (some ⟨gX, oX + 1, none⟩) := hR 3 (by decide)
     have d4 : x4 = .int .i64 (C : Int) := hR 4 (by decide)
     have d5 : x5 = .int .i64 (nC : Int) := hR 5 (by decide)
     have d6 : x6 = .int .i64 (k : Int) := hR 6 (by decide)
     have d7 : x7 = .int .i64 (m : Int) := hR 7 (by decide)
     have d8 : x8 = .agg #[.slice aL wv.L.length cL, .slice aK wv.K.length cK, .slice aO wv.O.length cO, .slice aQ Q.length cQ, .slice aS wv.S.length cS, .slice aP wv.P.length cP, .slice aD wv.D.length cD] := hR 8 (by decide)
     have d9 : x9 = .int .i64 (T : Int) := hR 9 (by decide)
     have d10 : x10 = .int .i64 (mT : Int) := hR 10 (by decide)
     have d11 : x11 = .pointer (some ⟨Y, 1, none⟩) := hR 11 (by decide)
     have d12 : x12 = .int .i64 (t : Int) := hR 12 (by decide)
     have d13 : x13 = .int .i64 (mt : Int) := hR 13 (by decide)
     have d14 : x14 = .agg #[.slice aL wv.L.length cL, .slice aK wv.K.length cK, .slice aO wv.O.length cO, .slice aQ Q.length cQ, .slice aS wv.S.length cS, .slice aP wv.P.length cP, .slice aD wv.D.length cD] := hR 14 (by decide)
     have d15 : x15 = .int .i64 (N : Int) := hR 15 (by decide)
     have d16 : x16 = .int .i64 (mN : Int) := hR 16 (by decide)
     have d17 : x17 = .pointer (some ⟨Y, 0, none⟩) := hR 17 (by decide)
     have d18 : x18 = .int .i64 (p : Int) := hR 18 (by decide)
     have d19 : x19 = .int .i64 (col : Int) := hR 19 (by decide)
     have d20 : x20 = .int .i64 (a : Int) := hR 20 (by decide)
     have d21 : x21 = .slice (some ⟨gX, oX, none⟩) xs.length cX := hR 21 (by decide)
     have d22 : x22 = .pointer (some ⟨gX, oX + 1, none⟩) := hR 22 (by decide)
     have d23 : x23 = .int .i64 (C : Int) := hR 23 (by decide)
     have d24 : x24 = .int .i64 (nC : Int) := hR 24 (by decide)
     have d25 : x25 = .int .i64 (k : Int) := hR 25 (by decide)
     have d26 : x26 = .int .i64 (m : Int) := hR 26 (by decide)
     have d27 : x27 = .int .i64 (M : Int) := hR 27 (by decide)
     have d28 : x28 = .int .i64 (mM : Int) := hR 28 (by decide)
     have d29 : x29 = .pointer (some ⟨Y, 2, none⟩) := hR 29 (by decide)
     have d30 : x30 = .int .i64 (z9 : Int) := hR 30 (by decide)
     have d31 : x31 = .int .i64 (at9 : Int) := hR 31 (by decide)
     clear hR hD
     subst d0
     subst d1
     subst d2
     subst d3
     subst d4
     subst d5
     subst d6
     subst d7
     subst d8
     subst d9
     subst d10
     subst d11
     subst d12
     subst d13
     subst d14
     subst d15
     subst d16
     subst d17
     subst d18
     subst d19
     subst d20
     subst d21
     subst d22
     subst d23
     subst d24
     subst d25
     subst d26
     subst d27
     subst d28
     subst d29
     subst d30
     subst d31
     refine wpAnyIn_ready (rs := [32]) (by kernel_rfl) (by simp) (AllReadyIn.cons rfl (fun KK hK => ?_) AllReadyIn.nil)
     have K2 := HJ.out m p t V w1 K1.out (hb1.mono HSV.out)
     obtain ⟨fn2, tmps2, assign2, body2, hy, hRR⟩ := HYY.out w1 K2
     have HRR := Lib.hid hRR
     have HK2 := Lib.hid (HKP.out.trans (Kept.of_below hb1))
     have G2 := Lib.hid ((G1.out.next hb1).re)
     clear hRR K2 hb1
     (repeat gi_step)
     refine ⟨fun _ => by omega, RoundIn.mono (F := Fence.wide.inRound (D + 1)) HRR.out ?_⟩
     rintro e V3 ⟨hk3, rfl, hj3⟩
     have F6 := Lib.hid (G2.out.keptS hk3)
     have HJ3 := Lib.hid hj3
     have HK3 := Lib.hid (HK2.out.trans (hk3.mono (by omega)))
     clear hk3 hj3 hy G2
     (repeat gi_step)
     refine hK _ _ ?_
     clear hK KK
     try simp only [putAll, Act.put, List.setIfInBounds_toArray, List.set_cons_zero, List.set_cons_succ]
     refine wpAnyIn_ready (rs := [33]) (by kernel_rfl) (by simp) (AllReadyIn.cons rfl (fun KK hK => ?_) AllReadyIn.nil)
     go_simp
     refine hK _ _ ?_
     clear hK KK
     try simp only [putAll, Act.put, List.setIfInBounds_toArray, List.set_cons_zero, List.set_cons_succ]
     refine wpAnyIn_done (by kernel_rfl) ?_ _
     gi_wp2
     refine ⟨F6.out.m 0 rfl, HK3.out.trans (Kept.putObj (D + 2) _ (D + 1) _ (by omega)), HJ.out _ _ _ _ _ HJ3.out (below_putObj S _ _ _ (by omega) (HJB.out _ _ _ _ HJ3.out).1), ?_⟩
     have F7 := (((F6.out.putM 0 rfl (.loop (R9 .ready none)) rfl).re).less (.cons_cons _ (.cons_cons _ (.cons_cons _ (.cons_cons _ (.cons _ .slnil))))) (.refl _) (.refl _) (.refl _))
     simp only [List.set_cons_zero, List.set_cons_succ] at F7
     have hj := HJF.out
     have hks := HK3.out.1
     have hsz9 := (grownBy_putObj' V3 (D + 1) (.loop (R9 .ready none))).size
     exact ⟨F7, hj.lS, by have h8 := hj.sz; omega, hj.bB, hj.bO, by have h9 := hj.bM; simp only [List.mem_cons, forall_eq_or_imp] at h9 ⊢; exact h9⟩
   case hdone =>
    rintro V o9 ho ⟨j1, o2, F8⟩
    have FY := Lib.hid (((F8.out.putM 0 rfl o9 ho).re).less (.cons_cons _ (.cons_cons _ (List.nil_sublist _))) (.refl _) (.refl _) (List.sublist_cons_self _ _))
    try simp only [List.set_cons_zero, List.set_cons_succ] at FY
    have JY := Lib.hid (HRW.out m _ HMB.out (HJ.out m N 0 _ _ j1 (below_putObj S V (D + 1) o9 (by omega) (HJB.out _ _ _ _ j1).1)))
    generalize V.putObj (D + 1) o9 = V3 at *
    clear F8 F4 hD j1 HJ4
    go_wp2
    obtain ⟨_, _, b3, b4, _⟩ := HBC.out
    have b6 := HLT.out
    refine ⟨⟨⟨k + 1, D :: Ds, by omega, by (show Value.int .i64 (RowKit.wrap64 ((k : Int) + 1)) = Value.int .i64 ((k + 1 : Nat) : Int); rw [IntWalk.wrap64_in _ (by omega)]; rfl), rfl, by rw [← Nat.add_assoc, HNC.out, HMD.out]; exact JY, FY⟩, rfl⟩, ?_⟩
    show C - (intOf (Value.int .i64 (RowKit.wrap64 ((k : Int) + 1)))).toNat < C - (intOf (Value.int .i64 (k : Int))).toNat
    rw [IntWalk.wrap64_in _ (by omega)]
    simp only [intOf]
    omega
  ·obtain rfl : k = C := by omega
   go_wp2
   obtain ⟨_, _, b3, b4, _⟩ := HBC.out
   have b6 := HLT.out
   refine ⟨⟨⟨a + 1, Ds, by omega, by (show Value.int .i64 (RowKit.wrap64 ((a : Int) + 1)) = Value.int .i64 ((a + 1 : Nat) : Int); rw [IntWalk.wrap64_in _ (by omega)]; rfl), rfl, by rw [Nat.succ_mul]; exact HJA, Lib.hid (F2.out.less (.cons_cons _ (List.nil_sublist _)) (.refl _) (.refl _) (.refl _))⟩, rfl⟩, ?_⟩
   have h9 := HLT.out
   show R - (intOf (Value.int .i64 (RowKit.wrap64 ((a : Int) + 1)))).toNat < R - (intOf (Value.int .i64 (a : Int))).toNat
   rw [IntWalk.wrap64_in _ (by omega)]
   simp only [intOf]
   omega
 ·obtain rfl : a = R := by omega
  go_wp2
  show LeavesInM Fence.wide n Try.prog Try.f84 _ (fun e W' => (∃ v, e = .returned v) ∧ J (a * C) 0 0 W') (mkD Ds) .returning _
  refine leaves_marks (by simp) _ _ F2.out (fun w9 F10 => ?_)
  exact ⟨_, results_none rfl _ _ _, ⟨_, rfl⟩, HJ.out _ _ _ _ _ HJA.out F10.bel⟩
end Go.Proofs.Ytadlnmckcnfacaa
