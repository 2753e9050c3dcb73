/- Walks: pool.Each: all places in a tensor's words on which the taps of one word of an answer stand. -/
import Derived.Test.YtmjcpgfekpedkaaPoE
set_option linter.unusedVariables false
set_option linter.unusedSimpArgs false
namespace Go.Proofs.Ytmjcpgfekpedkaa
open Go.RowKit Go.Rt
attribute [local go_sem] Oper.semAt_some
theorem lw6 {α : Type} {l : List α} (h : l.length = 6) : ∃ x0 x1 x2 x3 x4 x5, l = [x0, x1, x2, x3, x4, x5] := by
  match l, h with
  | [x0, x1, x2, x3, x4, x5], _ => exact ⟨x0, x1, x2, x3, x4, x5, rfl⟩
set_option maxRecDepth 100000 in
set_option maxHeartbeats 1000000 in
theorem each_any (aL aK aO aQ aS aP aD : Option Addr) (cL cK cO cQ cS cP cD : Nat) (Q : List Int) (wv : WinV) (nn M : Nat) (w : World) (hL : Ints .i64 w w.heap.size aL wv.L) (hg : goodB wv.L = true) (hM : prodI wv.L = (M : Int)) :
    Calls Try.prog 34 #[.agg #[.slice aL wv.L.length cL, .slice aK wv.K.length cK, .slice aO wv.O.length cO, .slice aQ Q.length cQ, .slice aS wv.S.length cS, .slice aP wv.P.length cP, .slice aD wv.D.length cD], .int .i64 (nn : Int)] w fun e w' => e = .returned (.func (.func 59) #[] #[.pointer (some ⟨w.heap.size, 0, none⟩), .pointer (some ⟨w.heap.size + 1, 0, none⟩), .pointer (some ⟨w.heap.size + 1 + 1, 0, none⟩)]) ∧
      Fr w.heap.size w w' [(w.heap.size, [.slice aL wv.L.length cL, .slice aK wv.K.length cK, .slice aO wv.O.length cO, .slice aQ Q.length cQ, .slice aS wv.S.length cS, .slice aP wv.P.length cP, .slice aD wv.D.length cD]), (w.heap.size + 1, [.int .i64 (nn : Int)]), (w.heap.size + 1 + 1, [.int .i64 (M : Int)])] [] [] [] := by
  have F1 := Lib.hid (((Fr.start (w := w) (I := [(.i64, aL, wv.L)]) (by intro z hz; simp at hz; rcases hz with rfl; exact hL)).box1 (b := w.heap.size) rfl [.slice aL wv.L.length cL, .slice aK wv.K.length cK, .slice aO wv.O.length cO, .slice aQ Q.length cQ, .slice aS wv.S.length cS, .slice aP wv.P.length cP, .slice aD wv.D.length cD] 68).box1 (b := w.heap.size + 1) (by simp) [.int .i64 (nn : Int)] 3)
  simp only [List.nil_append, List.cons_append] at F1
  have hst := fun W (h : Ints .i64 W W.heap.size aL wv.L) => size_any aL cL W.heap.size wv.L W h hg
  rw [hM] at hst
  have HST := Lib.hid hst
  clear hL hg hst hM
  go_enter Try.func34, Try.ntmps34
  go_upto_region 1 with fail
  obtain ⟨W1, hW1⟩ : ∃ W1, (w.alloc (.cells #[.slice aL wv.L.length cL, .slice aK wv.K.length cK, .slice aO wv.O.length cO, .slice aQ Q.length cQ, .slice aS wv.S.length cS, .slice aP wv.P.length cP, .slice aD wv.D.length cD] 68)).alloc (.cells #[.int .i64 (nn : Int)] 3) = W1 := ⟨_, rfl⟩
  have hsz : W1.heap.size = w.heap.size + 1 + 1 := by rw [← hW1]; simp
  rw [hW1] at F1 ⊢
  clear hW1
  have c0 := F1.out.c 0 0 rfl rfl
  have F3 := Lib.hid (F1.out.box1 (b := w.heap.size + 1 + 1) hsz [.int .i64 (M : Int)] 3)
  simp only [List.nil_append, List.cons_append] at F3
  go_upto_region 2 with (go_at_call 58; refine (HST.out _ (F1.out.lw 0 rfl)).mono ?_; rintro e w2 ⟨rfl, rfl⟩)
  go_wp2
  go_ret
  exact ⟨by first | rfl | simp [hsz], F3.out.less (.refl _) (List.nil_sublist _) (.refl _) (.refl _)⟩

set_option maxRecDepth 100000 in
set_option maxHeartbeats 2000000 in
/-- The iterator of a window's places, called at yield of loop l: rounds 0 to T - 1, but those outside; or a round says 'no more'. -/
theorem eachIter (n : Nat) (hn : 12 ≤ n) (l Ba Bb Bc N M nn T S : Nat) (aL aK aO aQ aS aP aD : Option Addr) (cL cK cO cQ cS cP cD : Nat) (Q : List Int) (wv : WinV) (W : World) (hS : W.heap.size = S) (J : Nat → World → Prop) (Jx : World → Prop) (hR : wv.R) (hok : wv.okB = true) (hr : 1 ≤ wv.L.length) (hgO : goodB wv.O = true) (hgK : goodB wv.K = true) (hT : prodI wv.K = (T : Int)) (hN : prodI wv.O = (N : Int)) (hMb : M ≤ 65536) (hnn : nn ≤ 65536)
    (hJ : ∀ k W1 W2, J k W1 → Below S W1 W2 → J k W2) (hJx : ∀ W1 W2, Jx W1 → Below S W1 W2 → Jx W2) (hJs : ∀ W1, Jx W1 → S ≤ W1.heap.size)
    (hJB : ∀ k W1, J k W1 → S ≤ W1.heap.size ∧ BoxL W1 Ba [.slice aL wv.L.length cL, .slice aK wv.K.length cK, .slice aO wv.O.length cO, .slice aQ Q.length cQ, .slice aS wv.S.length cS, .slice aP wv.P.length cP, .slice aD wv.D.length cD] ∧ BoxL W1 Bb [.int .i64 (nn : Int)] ∧ BoxL W1 Bc [.int .i64 (M : Int)] ∧ WinAt W1 W1.heap.size aL aK aO aS aP aD wv)
    (hskip : ∀ t W1, t < T → wv.wB (nn % N) t = false → J t W1 → J (t + 1) W1)
    (hY : ∀ t W1, t < T → wv.wB (nn % N) t = true → J t W1 → YieldAt Fence.wide (n - 1 - 1 - 1) Try.prog l #[.int .i64 (((nn / N * M : Nat) : Int) + wv.wI (nn % N) t)] W1 fun e W' => Kept S W1 W' ∧ ((e = .returned (.bool true) ∧ J (t + 1) W') ∨ (e = .returned (.bool false) ∧ Jx W')))
    (h0 : J 0 W) :
    CallsIn Fence.wide n Try.prog 59 #[.func (.yield l) #[] #[], .pointer (some ⟨Ba, 0, none⟩), .pointer (some ⟨Bb, 0, none⟩), .pointer (some ⟨Bc, 0, none⟩)] W fun e W' => (∃ v, e = .returned v) ∧ (J T W' ∨ Jx W') := by
  have h1n : 1 ≤ n := by omega
  have hPN := goodB_prod hgO
  have hrem : ((nn : Int)).tmod (N : Int) = ((nn % N : Nat) : Int) := by rw [Int.tmod_eq_emod_of_nonneg (by omega)]; omega
  have hpnb : nn % N ≤ nn := Nat.mod_le _ _
  have hquo : ((nn : Int)).tdiv (N : Int) = ((nn / N : Nat) : Int) := by rw [Int.tdiv_eq_ediv_of_nonneg (by omega)]; omega
  have hqdb : nn / N ≤ nn := Nat.div_le_self _ _
  have hplb := prodI_le_pow wv.L hR.dims
  have hwib := fun (t : Nat) (h : wv.wB (nn % N) t = true) => WinV.wI_bound hR h
  have hL2 : prodI wv.L ≤ 16777216 := by
    have : wv.L.length = 1 ∨ wv.L.length = 2 := by have := hR.r; omega
    rcases this with e | e <;> rw [e] at hplb <;> exact Int.le_trans hplb (by decide)
  obtain ⟨pn, hpn⟩ : ∃ p, nn % N = p := ⟨_, rfl⟩
  rw [hpn] at hrem hpnb
  simp only [hpn] at hskip hY hwib
  obtain ⟨qd, hqd⟩ : ∃ p, nn / N = p := ⟨_, rfl⟩
  rw [hqd] at hquo hqdb
  simp only [hqd] at hY
  obtain ⟨QM, hQM⟩ : ∃ p, qd * M = p := ⟨_, rfl⟩
  have hQMb : QM ≤ 65536 * 65536 := by rw [← hQM]; exact Nat.mul_le_mul (by omega) hMb
  simp only [hQM] at hY
  have HQUO := Lib.hid hquo
  have HQM := Lib.hid (show (qd : Int) * (M : Int) = (QM : Int) by rw [← hQM]; exact (Int.natCast_mul _ _).symm)
  have HWIB := Lib.hid (fun t h => (And.intro (hwib t h).1 (Int.lt_of_lt_of_le (hwib t h).2 hL2)))
  clear hpn hqd hQM hquo hplb hwib hL2
  have hN1 : 1 ≤ N := by omega
  have hN2 : N ≤ 65536 := by omega
  obtain ⟨hs0, bxa, bxb, bxc, hW0⟩ := hJB 0 W h0
  have hBa : Ba < S := by rw [← hS]; exact bxa.lt (by simp)
  have hBb : Bb < S := by rw [← hS]; exact bxb.lt (by simp)
  have hBc : Bc < S := by rw [← hS]; exact bxc.lt (by simp)
  have HJ := Lib.hid hJ
  have HJX := Lib.hid hJx
  have HJS := Lib.hid hJs
  have HJB := Lib.hid hJB
  have HSK := Lib.hid hskip
  have HY := Lib.hid hY
  have H0 := Lib.hid h0
  have HWL := Lib.hid (And.intro hR (And.intro hok (And.intro hr (And.intro hgO (And.intro hgK hT)))))
  have HN := Lib.hid hN
  have hpl := fun W (h : Ints .i64 W W.heap.size aO wv.O) => winPlaces_any aL aK aO aQ aS aP aD cL cK cO cQ cS cP cD Q wv W h hgO
  rw [hN] at hpl
  have HPL := Lib.hid hpl
  have hfr := fun W (h : Ints .i64 W W.heap.size aO wv.O) => from_anyW aL aK aO aQ aS aP aD cL cK cO cQ cS cP cD Q wv pn W h hgO (by omega)
  have HFR := Lib.hid hfr
  have hswf : ∀ x ∈ standsI wv.O (pn : Int), (Lit.int .i64 x).wf = true := wf_stands (goodB_dims hgO)
  have HSWF := Lib.hid hswf
  have hsll := standsI_length wv.O ((nn % N : Nat) : Int)
  have HSLL := Lib.hid hsll
  clear hPN hW0 bxa bxb bxc hJ hJx hJs hJB hskip hY h0 hR hok hr hgO hgK hT hN hpl hfr hswf hsll
  refine callsIn_of_wp_marks Try.func59 rfl trivial ?_ rfl
  simp only [Try.ntmps59, List.size_toArray, List.length_cons, List.length_nil, Nat.reduceAdd, Nat.reduceSub, Array.replicate_succ, Array.replicate_zero, List.push_toArray, List.append_toArray, List.nil_append, List.cons_append]
  refine wpIn_wide.2 ?_
  have F1 := Lib.hid ((Fr.start (w := W) (I := []) (by simp)).box1 (b := S) hS [.func (.yield l) #[] #[]] 106)
  simp only [List.nil_append, hS] at F1
  have HBW : Hid (Below S W (W.alloc (.cells #[.func (.yield l) #[] #[]] 106))) := Lib.hid ((Below.refl _ _).alloc (by omega) _)
  go_upto_region 1 with fail
  obtain ⟨W1, hW1⟩ : ∃ W1, (W.alloc (.cells #[.func (.yield l) #[] #[]] 106)) = W1 := ⟨_, rfl⟩
  have hW1s : W1.heap.size = S + 1 := by rw [← hW1]; simp [hS]
  rw [hW1] at F1 HBW ⊢
  clear hW1
  have HJ0 := Lib.hid (HJ.out 0 _ _ H0.out HBW.out)
  have hSW : S ≤ W1.heap.size := by omega
  clear H0
  have HDN := Lib.hid (show ¬ N = 0 by omega)
  have HDX := Lib.hid hrem
  clear hrem
  refine wp_region_parts2 (w := W1) 5 1 none [] [(fun u _ => u = .agg #[.slice aL wv.L.length cL, .slice aK wv.K.length cK, .slice aO wv.O.length cO, .slice aQ Q.length cQ, .slice aS wv.S.length cS, .slice aP wv.P.length cP, .slice aD wv.D.length cD]), (fun u _ => u = .int .i64 (nn : Int)), (fun u _ => u = .agg #[.slice aL wv.L.length cL, .slice aK wv.K.length cK, .slice aO wv.O.length cO, .slice aQ Q.length cQ, .slice aS wv.S.length cS, .slice aP wv.P.length cP, .slice aD wv.D.length cD]), (fun u _ => u = .int .i64 (N : Int)), (fun u _ => u = .int .i64 (pn : Int))] [some 6, some 7, some 8, some 9, some 10, some 11] #[true, true, true, true, true, false] #[true, true, true, true, true, false] (by kernel_rfl) rfl (by kernel_rfl) (by kernel_rfl) rfl (by kernel_rfl) (by kernel_rfl) (.cons (carries_eq _) (.cons (carries_eq _) (.cons (carries_eq _) (.cons (carries_eq _) (.cons (carries_eq _) .nil))))) (fun vs b hvl hvb => ?_)
  obtain ⟨x0, x1, x2, x3, x4, x5, rfl⟩ : ∃ x0 x1 x2 x3 x4 x5, vs = [x0, x1, x2, x3, x4, x5] := lw6 hvl
  clear hvl
  simp only [putAll, Act.put, List.setIfInBounds_toArray, List.set_cons_zero, List.set_cons_succ] at hvb
  subst hvb
  refine ⟨(.snoc (.snoc (.snoc (.snoc (.snoc .zero (PartOb.intro (d := (some 6)) (r := fun u _ => u = .agg #[.slice aL wv.L.length cL, .slice aK wv.K.length cK, .slice aO wv.O.length cO, .slice aQ Q.length cQ, .slice aS wv.S.length cS, .slice aP wv.P.length cP, .slice aD wv.D.length cD]) rfl rfl rfl rfl ?po1x0)) (PartOb.intro (d := (some 7)) (r := fun u _ => u = .int .i64 (nn : Int)) rfl rfl rfl rfl ?po1x1)) (PartOb.intro (d := (some 8)) (r := fun u _ => u = .agg #[.slice aL wv.L.length cL, .slice aK wv.K.length cK, .slice aO wv.O.length cO, .slice aQ Q.length cQ, .slice aS wv.S.length cS, .slice aP wv.P.length cP, .slice aD wv.D.length cD]) rfl rfl rfl rfl ?po1x2)) (PartOb.intro (d := (some 9)) (r := fun u _ => u = .int .i64 (N : Int)) rfl rfl rfl rfl ?po1x3)) (PartOb.intro (d := (some 10)) (r := fun u _ => u = .int .i64 (pn : Int)) rfl rfl rfl rfl ?po1x4)), ?pend1, ?pfl1⟩
  case po1x0 =>
    intro w1 hb1 hd KK hK
    clear hd
    obtain ⟨hs1, bxa, bxb, bxc, hW1⟩ := HJB.out 0 w1 (HJ.out 0 _ _ HJ0.out (hb1.mono hSW))
    have y0 := bxa.cell 0 _ rfl
    have y1 := bxa.cell 1 _ rfl
    have y2 := bxa.cell 2 _ rfl
    have y3 := bxa.cell 3 _ rfl
    have y4 := bxa.cell 4 _ rfl
    have y5 := bxa.cell 5 _ rfl
    have y6 := bxa.cell 6 _ rfl
    simp only [Act.put, List.setIfInBounds_toArray, List.set_cons_zero, List.set_cons_succ] at hK
    go_simp
    first | exact hK.out _ _ (Below.refl _ _) rfl | (have hk := hK.out _ _ (Below.refl _ _) rfl; revert hk; go_simp)
  case po1x1 =>
    intro w1 hb1 hd KK hK
    clear hd
    obtain ⟨hs1, bxa, bxb, bxc, hW1⟩ := HJB.out 0 w1 (HJ.out 0 _ _ HJ0.out (hb1.mono hSW))
    have y0 := bxb.cell 0 _ rfl
    simp only [Act.put, List.setIfInBounds_toArray, List.set_cons_zero, List.set_cons_succ] at hK
    go_simp
    first | exact hK.out _ _ (Below.refl _ _) rfl | (have hk := hK.out _ _ (Below.refl _ _) rfl; revert hk; go_simp)
  case po1x2 =>
    intro w1 hb1 hd KK hK
    clear hd
    obtain ⟨hs1, bxa, bxb, bxc, hW1⟩ := HJB.out 0 w1 (HJ.out 0 _ _ HJ0.out (hb1.mono hSW))
    have y0 := bxa.cell 0 _ rfl
    have y1 := bxa.cell 1 _ rfl
    have y2 := bxa.cell 2 _ rfl
    have y3 := bxa.cell 3 _ rfl
    have y4 := bxa.cell 4 _ rfl
    have y5 := bxa.cell 5 _ rfl
    have y6 := bxa.cell 6 _ rfl
    simp only [Act.put, List.setIfInBounds_toArray, List.set_cons_zero, List.set_cons_succ] at hK
    go_simp
    first | exact hK.out _ _ (Below.refl _ _) rfl | (have hk := hK.out _ _ (Below.refl _ _) rfl; revert hk; go_simp)
  case po1x3 =>
    intro w1 hb1 hd KK hK
    have d2 : x2 = .agg #[.slice aL wv.L.length cL, .slice aK wv.K.length cK, .slice aO wv.O.length cO, .slice aQ Q.length cQ, .slice aS wv.S.length cS, .slice aP wv.P.length cP, .slice aD wv.D.length cD] := hd 2 (by kernel_rfl)
    clear hd
    subst d2
    obtain ⟨hs1, bxa, bxb, bxc, hW1⟩ := HJB.out 0 w1 (HJ.out 0 _ _ HJ0.out (hb1.mono hSW))
    simp only [Act.put, List.setIfInBounds_toArray, List.set_cons_zero, List.set_cons_succ] at hK
    go_simp
    go_at_call 61
    refine (HPL.out w1 hW1.iO).mono ?_
    rintro e w2 ⟨rfl, hb⟩
    (try go_wp2_with fail)
    first | exact hK.out _ _ hb rfl | (have hk := hK.out _ _ hb rfl; revert hk; go_simp)
  case po1x4 =>
    intro w1 hb1 hd KK hK
    have d1 : x1 = .int .i64 (nn : Int) := hd 1 (by kernel_rfl)
    have d3 : x3 = .int .i64 (N : Int) := hd 3 (by kernel_rfl)
    clear hd
    subst d1
    subst d3
    have dx := HDX.out
    have dn := HDN.out
    simp only [Act.put, List.setIfInBounds_toArray, List.set_cons_zero, List.set_cons_succ] at hK
    go_simp
    first | exact hK.out _ _ (Below.refl _ _) rfl | (have hk := hK.out _ _ (Below.refl _ _) rfl; revert hk; go_simp)
  case pfl1 => (intro f hf; cases hf)
  case pend1 =>
  intro w1 hb1 hR hD
  have d0 : x0 = .agg #[.slice aL wv.L.length cL, .slice aK wv.K.length cK, .slice aO wv.O.length cO, .slice aQ Q.length cQ, .slice aS wv.S.length cS, .slice aP wv.P.length cP, .slice aD wv.D.length cD] := hR 0 (by decide)
  have d1 : x1 = .int .i64 (nn : Int) := hR 1 (by decide)
  have d2 : x2 = .agg #[.slice aL wv.L.length cL, .slice aK wv.K.length cK, .slice aO wv.O.length cO, .slice aQ Q.length cQ, .slice aS wv.S.length cS, .slice aP wv.P.length cP, .slice aD wv.D.length cD] := hR 2 (by decide)
  have d3 : x3 = .int .i64 (N : Int) := hR 3 (by decide)
  have d4 : x4 = .int .i64 (pn : Int) := hR 4 (by decide)
  clear hR hD
  subst d0
  subst d1
  subst d2
  subst d3
  subst d4
  refine wpAny_ready (rs := [5]) (by kernel_rfl) (by simp) (AllReady.cons rfl (fun KK hK => ?_) AllReady.nil)
  have hs1 := (HJB.out 0 w1 (HJ.out 0 _ _ HJ0.out (hb1.mono hSW))).1
  have hWb := (HJB.out 0 w1 (HJ.out 0 _ _ HJ0.out (hb1.mono hSW))).2.2.2.2
  go_simp
  go_at_call 60
  refine (HFR.out w1 hWb.iO).mono ?_
  rintro e w6 ⟨q, ap, cp, rfl, hfr⟩
  refine hK _ _ ?_
  clear hK KK
  try simp only [putAll, Act.put, List.setIfInBounds_toArray, List.set_cons_zero, List.set_cons_succ]
  refine wpAny_done (by kernel_rfl) ?_ _
  have F2 := Lib.hid (((F1.out.next hb1).join2 hfr).re)
  simp only [List.nil_append, List.cons_append, List.append_nil] at F2
  have HJ1 := Lib.hid (HJ.out 0 _ _ HJ0.out ((hb1.mono hSW).trans (hfr.bel.mono hs1)))
  clear hb1 hfr F1 HBW HJ0 hWb
  obtain ⟨X1, hX1⟩ : ∃ x, w1.heap.size = x := ⟨_, rfl⟩
  rw [hX1] at F2 hs1 ⊢
  clear hX1
  obtain ⟨D, hD⟩ : ∃ D, w6.heap.size = D := ⟨_, rfl⟩
  have hSD : S < D := by have := (F2.out.bl 0 rfl).2; omega
  go_wp2
  refine wpIn_wide.1 (wpIn_rangeFunc_any (n := n) rfl h1n (gf := 84) (lb := #[.pointer (some ⟨X1, 0, none⟩), .pointer (some ⟨q, 0, none⟩), .pointer (some ⟨X1 + 1, 0, none⟩)]) rfl trivial (enters_of Try.func84 (by kernel_rfl) rfl) D hD
    (fun W2 => J T W2 ∧ W2.heap[D]? = some (.deferred (some []))) (fun cc W2 => cc = .ret ∧ Jx W2 ∧ W2.heap[D]? = some (.deferred (some []))) ?hcall ?hdone ?hstop)
  case hcall =>
    intro fn R hfn hR
    have HR := Lib.hid hR
    clear hR
    have F3 := Lib.hid ((F2.out.recM hD (.deferred (some [])) rfl).recM (b := D + 1) (by simp [hD]) (.loop (R .ready none)) rfl).re
    have HB3 : Hid (Below S w6 ((w6.alloc (.deferred (some []))).alloc (.loop (R .ready none)))) := Lib.hid (((Below.refl _ _).alloc (by omega) _).alloc (by simp; omega) _)
    simp only [List.nil_append, List.cons_append] at F3
    obtain ⟨W3, hW3⟩ : ∃ W3, ((w6.alloc (.deferred (some []))).alloc (.loop (R .ready none))) = W3 := ⟨_, rfl⟩
    rw [hW3] at F3 HB3 ⊢
    have HJ3 := Lib.hid (HJ.out 0 _ _ HJ1.out HB3.out)
    clear hW3 HJ1 F2
    refine (fromIter (n - 1) (by omega) (D + 1) X1 q (X1 + 1) T pn aL aK aO aQ aS aP aD cL cK cO cQ cS cP cD Q wv ap cp W3 (fun k W' => J k W' ∧ Fr S W' W' [(S, [.func (.yield l) #[] #[]]), (X1, [.slice aL wv.L.length cL, .slice aK wv.K.length cK, .slice aO wv.O.length cO, .slice aQ Q.length cQ, .slice aS wv.S.length cS, .slice aP wv.P.length cP, .slice aD wv.D.length cD]), (X1 + 1, [.int .i64 (pn : Int)]), (q, [.slice ap wv.O.length cp])] [] [⟨3, .slice ap wv.O.length cp, wv.O.length, (standsI wv.O (pn : Int)).map (Value.int .i64)⟩] [(D, .deferred (some [])), (D + 1, .loop (R .ready none))]) (fun W' => Jx W' ∧ Fr S W' W' [(S, [.func (.yield l) #[] #[]]), (X1, [.slice aL wv.L.length cL, .slice aK wv.K.length cK, .slice aO wv.O.length cO, .slice aQ Q.length cQ, .slice aS wv.S.length cS, .slice aP wv.P.length cP, .slice aD wv.D.length cD]), (X1 + 1, [.int .i64 (pn : Int)]), (q, [.slice ap wv.O.length cp])] [] [⟨3, .slice ap wv.O.length cp, wv.O.length, (standsI wv.O (pn : Int)).map (Value.int .i64)⟩] [(D, .deferred (some [])), (D + 1, .loop (R .done (some .ret)))]) HWL.out.1 HWL.out.2.1 HWL.out.2.2.1 HWL.out.2.2.2.1 HWL.out.2.2.2.2.1 HWL.out.2.2.2.2.2 ?hJ ?hJB ?hskip ?hY ⟨HJ3.out, F3.out⟩).mono ?post
    case hJ =>
      rintro k V1 V2 ⟨j1, j2⟩ hb
      exact ⟨HJ.out k _ _ j1 (hb.mono (HJB.out k _ j1).1), j2.keptS (Kept.of_below hb)⟩
    case hJB =>
      rintro k V1 ⟨j1, j2⟩
      obtain ⟨g1, g2, g3, g4, g5⟩ := HJB.out k V1 j1
      exact ⟨(j2.box _ (List.mem_of_getElem? (i := 1) rfl)).1, (j2.box _ (List.mem_of_getElem? (i := 3) rfl)).1, (j2.box _ (List.mem_of_getElem? (i := 2) rfl)).1, g5, j2.li 0 (k := .i64) (xs := standsI wv.O (pn : Int)) rfl HSWF.out⟩
    case hskip =>
      rintro t V1 ht hf ⟨j1, j2⟩
      exact ⟨HSK.out t V1 ht hf j1, j2⟩
    case post =>
      rintro e V ⟨hv, ⟨j1, j2⟩ | ⟨j1, j2⟩⟩
      · exact ⟨hv, .inl ⟨⟨j1, j2.m 0 rfl⟩, j2.m 1 rfl⟩⟩
      · exact ⟨hv, .inr ⟨.ret, ⟨rfl, j1, j2.m 0 rfl⟩, j2.m 1 rfl⟩⟩
    case hY =>
      rintro t V1 ht htw ⟨j1, j2⟩
      have hsz1 := (HJB.out t _ j1).1
      refine yieldAt_roundR hfn HR.out (j2.m 1 rfl) rfl ?_
      obtain ⟨Y, hY2⟩ : ∃ x, V1.heap.size = x := ⟨_, rfl⟩
      have J2 := Lib.hid (j2.box1 (b := Y) hY2 [.int .i64 (pn : Int), .int .i64 (t : Int), .int .i64 (wv.wI pn t)] 112)
      simp only [List.nil_append, List.cons_append] at J2
      have hbA : Below S V1 (V1.alloc (.cells #[.int .i64 (pn : Int), .int .i64 (t : Int), .int .i64 (wv.wI pn t)] 112)) := (Below.refl _ _).alloc hsz1 _
      obtain ⟨VA, hVA⟩ : ∃ x, V1.alloc (.cells #[.int .i64 (pn : Int), .int .i64 (t : Int), .int .i64 (wv.wI pn t)] 112) = x := ⟨_, rfl⟩
      rw [hVA] at J2 hbA
      have HVA := Lib.hid hVA
      have hszA : S ≤ VA.heap.size := Nat.le_trans hsz1 hbA.size
      have HB4 : Hid (Below S V1 (VA.putObj (D + 1) (.loop (R .busy none)))) := Lib.hid (hbA.trans (below_putObj S VA (D + 1) _ (by omega) hszA))
      have J1 := Lib.hid (HJ.out t _ _ j1 HB4.out)
      have F4 := Lib.hid (J2.out.putM 1 rfl (.loop (R .busy none)) rfl).re
      simp only [List.set_cons_zero, List.set_cons_succ] at F4
      clear j1 j2 hfn HR hbA hVA
      gi_wp2
      rw [HVA.out]
      refine ⟨J2.out.m 1 rfl, ?_⟩
      obtain ⟨V, hV⟩ : ∃ V, VA.putObj (D + 1) (.loop (R .busy none)) = V := ⟨_, rfl⟩
      rw [hV] at J1 F4 HB4 ⊢
      clear hV HB4 J2 hszA hsz1
      (repeat gi_step)
      have HSV := Lib.hid (HJB.out t V J1.out).1
      have hqn := HQUO.out
      obtain ⟨wz, hwz⟩ : ∃ z, wv.wI pn t = z := ⟨_, rfl⟩
      have hwzb := HWIB.out t htw
      rw [hwz] at hwzb F4
      have HYT := Lib.hid (HY.out t)
      rw [hwz] at HYT
      obtain ⟨PL, hPL⟩ : ∃ z, (QM : Int) + wz = z := ⟨_, rfl⟩
      rw [hPL] at HYT
      have HDN2 := Lib.hid (show ¬ N = 0 by omega)
      have HQW := Lib.hid (show IntKind.i64.wrap (qd : Int) = (qd : Int) from IntWalk.i64_in _ (by omega))
      have HW2 := Lib.hid (show IntKind.i64.wrap ((qd : Int) * (M : Int)) = (QM : Int) by rw [HQM.out]; exact IntWalk.i64_in _ (by omega))
      have HW3 := Lib.hid (show IntKind.i64.wrap ((QM : Int) + wz) = PL by rw [hPL]; exact IntWalk.i64_in _ (by omega))
      clear hqn hwz hwzb hPL
      refine wpIn_region_parts2 (w := V) 10 2 none [] [(fun u _ => u = .func (.yield l) #[] #[]), (fun u _ => u = .int .i64 (nn : Int)), (fun u _ => u = .agg #[.slice aL wv.L.length cL, .slice aK wv.K.length cK, .slice aO wv.O.length cO, .slice aQ Q.length cQ, .slice aS wv.S.length cS, .slice aP wv.P.length cP, .slice aD wv.D.length cD]), (fun u _ => u = .int .i64 (N : Int)), (fun u _ => u = .int .i64 (qd : Int)), (fun u _ => u = .int .i64 (M : Int)), (fun u _ => u = .int .i64 (QM : Int)), (fun u _ => u = .pointer (some ⟨Y, 2, none⟩)), (fun u _ => u = .int .i64 wz), (fun u _ => u = .int .i64 PL)] [some 13, some 14, some 15, some 16, some 17, some 18, some 19, some 20, some 21, some 22, some 23, some 24] #[true, true, true, true, true, true, true, true, true, true, false, false] #[true, true, true, true, true, true, true, true, true, true, false, false] (by kernel_rfl) rfl (by kernel_rfl) (by kernel_rfl) rfl (by kernel_rfl) (by kernel_rfl) (.cons (carries_eq _) (.cons (carries_eq _) (.cons (carries_eq _) (.cons (carries_eq _) (.cons (carries_eq _) (.cons (carries_eq _) (.cons (carries_eq _) (.cons (carries_eq _) (.cons (carries_eq _) (.cons (carries_eq _) .nil)))))))))) (fun vs b hvl hvb => ?_)
      obtain ⟨x0, x1, x2, x3, x4, x5, x6, x7, x8, x9, x10, x11, rfl⟩ : ∃ x0 x1 x2 x3 x4 x5 x6 x7 x8 x9 x10 x11, vs = [x0, x1, x2, x3, x4, x5, x6, x7, x8, x9, x10, x11] := lw12 hvl
      clear hvl
      simp only [putAll, Act.put, List.setIfInBounds_toArray, List.set_cons_zero, List.set_cons_succ] at hvb
      subst hvb
      refine ⟨(.snoc (.snoc (.snoc (.snoc (.snoc (.snoc (.snoc (.snoc (.snoc (.snoc .zero (PartObIn.intro (d := (some 13)) (r := fun u _ => u = .func (.yield l) #[] #[]) rfl rfl rfl rfl ?po3x0)) (PartObIn.intro (d := (some 14)) (r := fun u _ => u = .int .i64 (nn : Int)) rfl rfl rfl rfl ?po3x1)) (PartObIn.intro (d := (some 15)) (r := fun u _ => u = .agg #[.slice aL wv.L.length cL, .slice aK wv.K.length cK, .slice aO wv.O.length cO, .slice aQ Q.length cQ, .slice aS wv.S.length cS, .slice aP wv.P.length cP, .slice aD wv.D.length cD]) rfl rfl rfl rfl ?po3x2)) (PartObIn.intro (d := (some 16)) (r := fun u _ => u = .int .i64 (N : Int)) rfl rfl rfl rfl ?po3x3)) (PartObIn.intro (d := (some 17)) (r := fun u _ => u = .int .i64 (qd : Int)) rfl rfl rfl rfl ?po3x4)) (PartObIn.intro (d := (some 18)) (r := fun u _ => u = .int .i64 (M : Int)) rfl rfl rfl rfl ?po3x5)) (PartObIn.intro (d := (some 19)) (r := fun u _ => u = .int .i64 (QM : Int)) rfl rfl rfl rfl ?po3x6)) (PartObIn.intro (d := (some 20)) (r := fun u _ => u = .pointer (some ⟨Y, 2, none⟩)) rfl rfl rfl rfl ?po3x7)) (PartObIn.intro (d := (some 21)) (r := fun u _ => u = .int .i64 wz) rfl rfl rfl rfl ?po3x8)) (PartObIn.intro (d := (some 22)) (r := fun u _ => u = .int .i64 PL) rfl rfl rfl rfl ?po3x9)), ?pend3, ?pfl3⟩
      case po3x0 =>
        intro w1 hb1 hd KK hK
        clear hd
        have hF := F4.out.next hb1
        have k0 := hF.c 0 0 rfl rfl
        simp only [Act.put, List.setIfInBounds_toArray, List.set_cons_zero, List.set_cons_succ] at hK
        go_simp
        first | exact hK.out _ _ (Below.refl _ _) rfl | (have hk := hK.out _ _ (Below.refl _ _) rfl; revert hk; go_simp)
      case po3x1 =>
        intro w1 hb1 hd KK hK
        clear hd
        obtain ⟨hsV, bxa, bxb, bxc, hW1⟩ := HJB.out t w1 (HJ.out t _ _ J1.out (hb1.mono HSV.out))
        have y0 := bxb.cell 0 _ rfl
        simp only [Act.put, List.setIfInBounds_toArray, List.set_cons_zero, List.set_cons_succ] at hK
        go_simp
        first | exact hK.out _ _ (Below.refl _ _) rfl | (have hk := hK.out _ _ (Below.refl _ _) rfl; revert hk; go_simp)
      case po3x2 =>
        intro w1 hb1 hd KK hK
        clear hd
        obtain ⟨hsV, bxa, bxb, bxc, hW1⟩ := HJB.out t w1 (HJ.out t _ _ J1.out (hb1.mono HSV.out))
        have y0 := bxa.cell 0 _ rfl
        have y1 := bxa.cell 1 _ rfl
        have y2 := bxa.cell 2 _ rfl
        have y3 := bxa.cell 3 _ rfl
        have y4 := bxa.cell 4 _ rfl
        have y5 := bxa.cell 5 _ rfl
        have y6 := bxa.cell 6 _ rfl
        simp only [Act.put, List.setIfInBounds_toArray, List.set_cons_zero, List.set_cons_succ] at hK
        go_simp
        first | exact hK.out _ _ (Below.refl _ _) rfl | (have hk := hK.out _ _ (Below.refl _ _) rfl; revert hk; go_simp)
      case po3x3 =>
        intro w1 hb1 hd KK hK
        have d2 : x2 = .agg #[.slice aL wv.L.length cL, .slice aK wv.K.length cK, .slice aO wv.O.length cO, .slice aQ Q.length cQ, .slice aS wv.S.length cS, .slice aP wv.P.length cP, .slice aD wv.D.length cD] := hd 2 (by kernel_rfl)
        clear hd
        subst d2
        obtain ⟨hsV, bxa, bxb, bxc, hW1⟩ := HJB.out t w1 (HJ.out t _ _ J1.out (hb1.mono HSV.out))
        simp only [Act.put, List.setIfInBounds_toArray, List.set_cons_zero, List.set_cons_succ] at hK
        go_simp
        (repeat gi_step)
        refine ⟨trivial, fun _ => by omega, ?_⟩
        refine ((CallsIn.inRound (D + 1) (callsIn_wide.2 (HPL.out w1 hW1.iO) : CallsIn Fence.wide (n - 1 - 1 - 1) _ _ _ _ _))).mono ?_
        rintro e w2 ⟨rfl, hb⟩
        (try gi_wp2_with fail)
        first | exact hK.out _ _ hb rfl | (have hk := hK.out _ _ hb rfl; revert hk; go_simp)
      case po3x4 =>
        intro w1 hb1 hd KK hK
        have d1 : x1 = .int .i64 (nn : Int) := hd 1 (by kernel_rfl)
        have d3 : x3 = .int .i64 (N : Int) := hd 3 (by kernel_rfl)
        clear hd
        subst d1
        subst d3
        have dx := HQUO.out
        have dn := HDN2.out
        have dw := HQW.out
        simp only [Act.put, List.setIfInBounds_toArray, List.set_cons_zero, List.set_cons_succ] at hK
        go_simp
        first | exact hK.out _ _ (Below.refl _ _) rfl | (have hk := hK.out _ _ (Below.refl _ _) rfl; revert hk; go_simp)
      case po3x5 =>
        intro w1 hb1 hd KK hK
        clear hd
        obtain ⟨hsV, bxa, bxb, bxc, hW1⟩ := HJB.out t w1 (HJ.out t _ _ J1.out (hb1.mono HSV.out))
        have y0 := bxc.cell 0 _ rfl
        simp only [Act.put, List.setIfInBounds_toArray, List.set_cons_zero, List.set_cons_succ] at hK
        go_simp
        first | exact hK.out _ _ (Below.refl _ _) rfl | (have hk := hK.out _ _ (Below.refl _ _) rfl; revert hk; go_simp)
      case po3x6 =>
        intro w1 hb1 hd KK hK
        have d4 : x4 = .int .i64 (qd : Int) := hd 4 (by kernel_rfl)
        have d5 : x5 = .int .i64 (M : Int) := hd 5 (by kernel_rfl)
        clear hd
        subst d4
        subst d5
        have dx := HW2.out
        simp only [Act.put, List.setIfInBounds_toArray, List.set_cons_zero, List.set_cons_succ] at hK
        go_simp
        first | exact hK.out _ _ (Below.refl _ _) rfl | (have hk := hK.out _ _ (Below.refl _ _) rfl; revert hk; go_simp)
      case po3x7 =>
        intro w1 hb1 hd KK hK
        clear hd
        simp only [Act.put, List.setIfInBounds_toArray, List.set_cons_zero, List.set_cons_succ] at hK
        go_simp
        first | exact hK.out _ _ (Below.refl _ _) rfl | (have hk := hK.out _ _ (Below.refl _ _) rfl; revert hk; go_simp)
      case po3x8 =>
        intro w1 hb1 hd KK hK
        have d7 : x7 = .pointer (some ⟨Y, 2, none⟩) := hd 7 (by kernel_rfl)
        clear hd
        subst d7
        have hF := F4.out.next hb1
        have k0 := hF.c 4 0 rfl rfl
        have k1 := hF.c 4 1 rfl rfl
        have k2 := hF.c 4 2 rfl rfl
        simp only [Act.put, List.setIfInBounds_toArray, List.set_cons_zero, List.set_cons_succ] at hK
        go_simp
        first | exact hK.out _ _ (Below.refl _ _) rfl | (have hk := hK.out _ _ (Below.refl _ _) rfl; revert hk; go_simp)
      case po3x9 =>
        intro w1 hb1 hd KK hK
        have d6 : x6 = .int .i64 (QM : Int) := hd 6 (by kernel_rfl)
        have d8 : x8 = .int .i64 wz := hd 8 (by kernel_rfl)
        clear hd
        subst d6
        subst d8
        have dx := HW3.out
        simp only [Act.put, List.setIfInBounds_toArray, List.set_cons_zero, List.set_cons_succ] at hK
        go_simp
        first | exact hK.out _ _ (Below.refl _ _) rfl | (have hk := hK.out _ _ (Below.refl _ _) rfl; revert hk; go_simp)
      case pfl3 => (intro f hf; cases hf)
      case pend3 =>
      intro w1 hb1 hR hD
      have d0 : x0 = .func (.yield l) #[] #[] := hR 0 (by decide)
      have d1 : x1 = .int .i64 (nn : Int) := hR 1 (by decide)
      have d2 : x2 = .agg #[.slice aL wv.L.length cL, .slice aK wv.K.length cK, .slice aO wv.O.length cO, .slice aQ Q.length cQ, .slice aS wv.S.length cS, .slice aP wv.P.length cP, .slice aD wv.D.length cD] := hR 2 (by decide)
      have d3 : x3 = .int .i64 (N : Int) := hR 3 (by decide)
      have d4 : x4 = .int .i64 (qd : Int) := hR 4 (by decide)
      have d5 : x5 = .int .i64 (M : Int) := hR 5 (by decide)
      have d6 : x6 = .int .i64 (QM : Int) := hR 6 (by decide)
      have d7 : x7 = .pointer (some ⟨Y, 2, none⟩) := hR 7 (by decide)
      have d8 : x8 = .int .i64 wz := hR 8 (by decide)
      have d9 : x9 = .int .i64 PL := hR 9 (by decide)
      clear hR hD
      subst d0
      subst d1
      subst d2
      subst d3
      subst d4
      subst d5
      subst d6
      subst d7
      subst d8
      subst d9
      refine wpAnyIn_ready (rs := [10]) (by kernel_rfl) (by simp) (AllReadyIn.cons rfl (fun KK hK => ?_) AllReadyIn.nil)
      have hjw := HJ.out t _ _ J1.out (hb1.mono HSV.out)
      obtain ⟨fn2, tmps2, assign2, body2, hy, hRR⟩ := HYT.out w1 ht htw hjw
      have HRR := Lib.hid hRR
      clear hRR hjw
      go_simp
      (repeat gi_step)
      refine ⟨fun _ => by omega, RoundIn.mono (F := Fence.wide.inRound (D + 1)) HRR.out ?_⟩
      rintro e V3 ⟨hk3, hj3⟩
      obtain ⟨bb, rfl, hj4⟩ : ∃ bb, e = .returned (.bool bb) ∧ ((bb = true ∧ J (t + 1) V3) ∨ (bb = false ∧ Jx V3)) := by
        rcases hj3 with ⟨rfl, h⟩ | ⟨rfl, h⟩
        · exact ⟨true, rfl, .inl ⟨rfl, h⟩⟩
        · exact ⟨false, rfl, .inr ⟨rfl, h⟩⟩
      have F5 := Lib.hid (((F4.out.next hb1).re).keptS hk3)
      clear hj3 hk3 hy HRR
      refine hK _ _ ?_
      clear hK KK
      try simp only [putAll, Act.put, List.setIfInBounds_toArray, List.set_cons_zero, List.set_cons_succ]
      refine wpAnyIn_ready (rs := [11]) (by kernel_rfl) (by simp) (AllReadyIn.cons rfl (fun KK hK => ?_) AllReadyIn.nil)
      go_simp
      refine hK _ _ ?_
      clear hK KK
      try simp only [putAll, Act.put, List.setIfInBounds_toArray, List.set_cons_zero, List.set_cons_succ]
      refine wpAnyIn_done (by kernel_rfl) ?_ _
      rcases hj4 with ⟨rfl, hj5⟩ | ⟨rfl, hj5⟩
      · skip
        have HJ5 := Lib.hid hj5
        clear hj5 F4
        gi_wp2
        refine ⟨F5.out.m 1 rfl, HJ.out _ _ _ HJ5.out (below_putObj S _ _ _ (by omega) (HJB.out _ _ HJ5.out).1), ?_⟩
        have F6 := (F5.out.putM 1 rfl (.loop (R .ready none)) rfl).re
        simp only [List.set_cons_zero, List.set_cons_succ] at F6
        exact F6.less (.cons_cons _ (.cons_cons _ (.cons_cons _ (.cons_cons _ (.cons _ .slnil))))) (.refl _) (.refl _) (.refl _)
      · skip
        have HJ5 := Lib.hid hj5
        clear hj5 F4
        gi_wp2
        (try simp only [Exit.noGoto, Exit.inBlock, Exit.then])
        refine ⟨F5.out.m 1 rfl, HJX.out _ _ HJ5.out (below_putObj S _ _ _ (by omega) (HJS.out _ HJ5.out)), ?_⟩
        have F6 := (F5.out.putM 1 rfl (.loop (R .done (some .ret))) rfl).re
        simp only [List.set_cons_zero, List.set_cons_succ] at F6
        exact F6.less (.cons_cons _ (.cons_cons _ (.cons_cons _ (.cons_cons _ (.cons _ .slnil))))) (.refl _) (.refl _) (.refl _)
  case hdone =>
    rintro V o ho ⟨j1, hd⟩
    have hs := (HJB.out _ _ j1).1
    have j2 := HJ.out _ _ _ j1 (below_putObj S V (D + 1) o (by omega) hs)
    have hs2 := (HJB.out _ _ j2).1
    have hd2 : (V.putObj (D + 1) o).heap[D]? = some (.deferred (some [])) := ((grownBy_putObj' V (D + 1) o).block D (Array.getElem?_eq_some_iff.1 hd).1 (by simp)).trans hd
    have j3 := HJ.out _ _ _ j2 (below_putObj S _ D (.deferred none) (by omega) hs2)
    have HD2 := Lib.hid hd2
    have J3 := Lib.hid j3
    clear j1 j2 j3 hd hd2 hs hs2
    go_wp2
    refine ⟨by simp, .inl ⟨_, _, rfl, run_takeDeferred HD2.out, ?_⟩⟩
    exact ⟨_, results_none rfl _ _ _, ⟨_, rfl⟩, .inl J3.out⟩
  case hstop =>
    rintro cc V o ho ⟨rfl, j1, hd⟩
    have hs := HJS.out _ j1
    have j2 := HJX.out _ _ j1 (below_putObj S V (D + 1) o (by omega) hs)
    have hs2 := HJS.out _ j2
    have hd2 : (V.putObj (D + 1) o).heap[D]? = some (.deferred (some [])) := ((grownBy_putObj' V (D + 1) o).block D (Array.getElem?_eq_some_iff.1 hd).1 (by simp)).trans hd
    have j3 := HJX.out _ _ j2 (below_putObj S _ D (.deferred none) (by omega) hs2)
    have HD2 := Lib.hid hd2
    have J3 := Lib.hid j3
    clear j1 j2 j3 hd hd2 hs hs2
    refine wpIn_wide.2 ?_
    go_wp2
    refine ⟨by simp, .inl ⟨_, _, rfl, run_takeDeferred HD2.out, ?_⟩⟩
    exact ⟨_, results_none rfl _ _ _, ⟨_, rfl⟩, .inr J3.out⟩
end Go.Proofs.Ytmjcpgfekpedkaa
