/- Walks: pool.Windows in all cases. -/
import Derived.Test.YtmjcpgfekpedkaaPoG
import Derived.Test.YtmjcpgfekpedkaaRdU
set_option linter.unusedVariables false
set_option linter.unusedSimpArgs false
namespace Go.Proofs.Ytmjcpgfekpedkaa
open Go.RowKit Go.Rt
attribute [local go_sem] Oper.semAt_some
/-- What pool.Out answers of a shape. -/
def outZ (xs : List Int) (wv : WinV) : Int := if numB true wv.K wv.S wv.P wv.D = true then (if xs.length = 2 + wv.S.length then (if (wv.okB && wv.fullB) = true then (if goodB (poS xs wv) = true then 0 else 5) else 2) else 2) else 1
theorem outZ_ok {xs : List Int} {wv : WinV} (h : outZ xs wv = 0) : numB true wv.K wv.S wv.P wv.D = true ∧ xs.length = 2 + wv.S.length ∧ wv.okB = true ∧ wv.fullB = true ∧ goodB (poS xs wv) = true := by
  unfold outZ at h
  split at h
  · next h1 =>
    split at h
    · next h2 =>
      split at h
      · next h3 =>
        split at h
        · next h4 =>
          rw [Bool.and_eq_true] at h3
          exact ⟨h1, h2, h3.1, h3.2, h4⟩
        · cases h
      · cases h
    · cases h
  · cases h
theorem out_zero (a : Option Addr) (c : Nat) (xs : List Int) (aK aS aP aD : Option Addr) (cK cS cP cD : Nat) (wv : WinV) (w : World) (h : Ints .i64 w w.heap.size a xs) (hK : Ints .i64 w w.heap.size aK wv.K) (hS : Ints .i64 w w.heap.size aS wv.S) (hP : Ints .i64 w w.heap.size aP wv.P) (hD : Ints .i64 w w.heap.size aD wv.D) (hL : wv.L = xs.drop 2) (hg : goodB xs = true) (hc1 : xs.length ≤ c) (hc2 : c ≤ 9223372036854775807) (hz : outZ xs wv = 0) :
    Calls Try.prog 56 #[.slice a xs.length c, .agg #[.slice aK wv.K.length cK, .slice aS wv.S.length cS, .slice aP wv.P.length cP, .slice aD wv.D.length cD]] w (fun e w' => ∃ aL cL aO cO as_ cs_, e = .returned (.tuple #[.agg #[.slice aL wv.L.length cL, .slice aK wv.K.length cK, .slice aO wv.O.length cO, .slice aK wv.K.length cK, .slice aS wv.S.length cS, .slice aP wv.P.length cP, .slice aD wv.D.length cD], .slice as_ (poS xs wv).length cs_, .int .i64 0]) ∧ (∃ b0 o0, a = some ⟨b0, o0, none⟩ ∧ aL = some ⟨b0, o0 + 2, none⟩) ∧ Fr w.heap.size w w' [] [] [⟨3, .slice aO wv.O.length cO, wv.O.length, wv.O.map (Value.int .i64)⟩, ⟨3, .slice as_ (poS xs wv).length cs_, (poS xs wv).length, (poS xs wv).map (Value.int .i64)⟩] []) := by
  obtain ⟨h1, h2, h3, h4, h5⟩ := outZ_ok hz
  exact out_ok a c xs aK aS aP aD cK cS cP cD wv w h hK hS hP hD h1 h2 hL hg hc1 hc2 h3 h4 h5
theorem out_else (a : Option Addr) (c : Nat) (xs : List Int) (aK aS aP aD : Option Addr) (cK cS cP cD : Nat) (wv : WinV) (w : World) (h : Ints .i64 w w.heap.size a xs) (hK : Ints .i64 w w.heap.size aK wv.K) (hS : Ints .i64 w w.heap.size aS wv.S) (hP : Ints .i64 w w.heap.size aP wv.P) (hD : Ints .i64 w w.heap.size aD wv.D) (hL : wv.L = xs.drop 2) (hg : goodB xs = true) (hc1 : xs.length ≤ c) (hc2 : c ≤ 9223372036854775807) (hz : outZ xs wv ≠ 0) :
    Calls Try.prog 56 #[.slice a xs.length c, .agg #[.slice aK wv.K.length cK, .slice aS wv.S.length cS, .slice aP wv.P.length cP, .slice aD wv.D.length cD]] w (fun e w' => e = .returned (.tuple #[.agg #[.slice none 0 0, .slice none 0 0, .slice none 0 0, .slice none 0 0, .slice none 0 0, .slice none 0 0, .slice none 0 0], .slice none 0 0, .int .i64 (outZ xs wv)]) ∧ Below w.heap.size w w') := by
  cases h1 : numB true wv.K wv.S wv.P wv.D with
  | false =>
    rw [show outZ xs wv = 1 by unfold outZ; rw [h1]; rfl]
    exact out_num a c xs aK aS aP aD cK cS cP cD wv w h hK hS hP hD h1
  | true =>
    by_cases h2 : xs.length = 2 + wv.S.length
    · cases h3 : wv.okB with
      | false =>
        rw [show outZ xs wv = 2 by unfold outZ; rw [h1, if_pos rfl, if_pos h2, h3]; rfl]
        exact out_over a c xs aK aS aP aD cK cS cP cD wv w h hK hS hP hD h1 h2 hL hg hc1 hc2 h3
      | true =>
        cases h4 : wv.fullB with
        | false =>
          rw [show outZ xs wv = 2 by unfold outZ; rw [h1, if_pos rfl, if_pos h2, h3, h4]; rfl]
          exact out_full a c xs aK aS aP aD cK cS cP cD wv w h hK hS hP hD h1 h2 hL hg hc1 hc2 h3 h4
        | true =>
          cases h5 : goodB (poS xs wv) with
          | false =>
            rw [show outZ xs wv = 5 by unfold outZ; rw [h1, if_pos rfl, if_pos h2, h3, h4, h5]; rfl]
            exact out_bud a c xs aK aS aP aD cK cS cP cD wv w h hK hS hP hD h1 h2 hL hg hc1 hc2 h3 h4 h5
          | true => exact absurd (by unfold outZ; rw [h1, if_pos rfl, if_pos h2, h3, h4, h5]; rfl) hz
    · rw [show outZ xs wv = 2 by unfold outZ; rw [h1, if_pos rfl, if_neg h2]]
      exact out_len a c xs aK aS aP aD cK cS cP cD wv w h hK hS hP hD h1 h2
/-- What pool.Windows answers. -/
def winZ (xs ys : List Int) (wv : WinV) : Int := if tenB xs ys = true then outZ xs wv else 1
theorem winZ_ok {xs ys : List Int} {wv : WinV} (h : winZ xs ys wv = 0) : tenB xs ys = true ∧ outZ xs wv = 0 := by
  unfold winZ at h
  split at h
  · next h1 => exact ⟨h1, h⟩
  · cases h
set_option maxRecDepth 100000 in
set_option maxHeartbeats 1000000 in
theorem win_one (a b : Option Addr) (c d : Nat) (xs ys : List Int) (aK aS aP aD : Option Addr) (cK cS cP cD : Nat) (wv : WinV) (w : World) (h : Ints .i64 w w.heap.size a xs) (h2 : Ints .i64 w w.heap.size b ys) (hK : Ints .i64 w w.heap.size aK wv.K) (hS : Ints .i64 w w.heap.size aS wv.S) (hP : Ints .i64 w w.heap.size aP wv.P) (hD : Ints .i64 w w.heap.size aD wv.D) (hL : wv.L = xs.drop 2) (hc1 : xs.length ≤ c) (hc2 : c ≤ 9223372036854775807) (ht : tenB xs ys = false) :
    Calls Try.prog 32 #[.agg #[.slice a xs.length c, .slice b ys.length d], .agg #[.slice aK wv.K.length cK, .slice aS wv.S.length cS, .slice aP wv.P.length cP, .slice aD wv.D.length cD]] w (fun e w' => e = .returned (.tuple #[.agg #[.slice none 0 0, .slice none 0 0, .slice none 0 0, .slice none 0 0, .slice none 0 0, .slice none 0 0, .slice none 0 0], .slice none 0 0, .int .i64 1]) ∧ Below w.heap.size w w') := by
  have heg := fun W (h : Ints .i64 W W.heap.size a xs) (h2 : Ints .i64 W W.heap.size b ys) => elemGood_any a b c d xs ys W h h2
  rw [ht] at heg
  have HEG := Lib.hid heg
  have F1 := Lib.hid ((((Fr.start (w := w) (I := [(.i64, a, xs), (.i64, b, ys), (.i64, aK, wv.K), (.i64, aS, wv.S), (.i64, aP, wv.P), (.i64, aD, wv.D)]) (by intro z hz; simp at hz; rcases hz with rfl | rfl | rfl | rfl | rfl | rfl; exact h; exact h2; exact hK; exact hS; exact hP; exact hD)).box1 (b := w.heap.size) rfl [.slice a xs.length c, .slice b ys.length d] 26).box1 (b := w.heap.size + 1) (by simp) [.slice aK wv.K.length cK, .slice aS wv.S.length cS, .slice aP wv.P.length cP, .slice aD wv.D.length cD] 28).box1 (b := w.heap.size + 1 + 1) (by simp) [.slice none 0 0, .slice none 0 0, .slice none 0 0, .slice none 0 0, .slice none 0 0, .slice none 0 0, .slice none 0 0] 68)
  simp only [List.nil_append, List.cons_append] at F1
  clear heg h h2 hK hS hP hD ht hL
  go_enter Try.func32, Try.ntmps32
  go_upto_region 1 with fail
  obtain ⟨W1, hW1⟩ : ∃ W1, ((w.alloc (.cells #[.slice a xs.length c, .slice b ys.length d] 26)).alloc (.cells #[.slice aK wv.K.length cK, .slice aS wv.S.length cS, .slice aP wv.P.length cP, .slice aD wv.D.length cD] 28)).alloc (.cells #[.slice none 0 0, .slice none 0 0, .slice none 0 0, .slice none 0 0, .slice none 0 0, .slice none 0 0, .slice none 0 0] 68) = W1 := ⟨_, rfl⟩
  rw [hW1] at F1 ⊢
  clear hW1
  have c0_0 := F1.out.c 0 0 rfl rfl
  have c0_1 := F1.out.c 0 1 rfl rfl
  go_wp2_with (first | (go_at_call 55; refine (HEG.out _ (F1.out.lw 0 rfl) (F1.out.lw 1 rfl)).mono ?_; rintro e w2 ⟨rfl, hb⟩; have F2 := Lib.hid (F1.out.next hb); clear hb F1 c0_0 c0_1; have c2_0 := F2.out.c 2 0 rfl rfl; have c2_1 := F2.out.c 2 1 rfl rfl; have c2_2 := F2.out.c 2 2 rfl rfl; have c2_3 := F2.out.c 2 3 rfl rfl; have c2_4 := F2.out.c 2 4 rfl rfl; have c2_5 := F2.out.c 2 5 rfl rfl; have c2_6 := F2.out.c 2 6 rfl rfl; have cf2_0 := F2.out.f 2 0 rfl rfl; have cf2_1 := F2.out.f 2 1 rfl rfl; have cf2_2 := F2.out.f 2 2 rfl rfl; have cf2_3 := F2.out.f 2 3 rfl rfl; have cf2_4 := F2.out.f 2 4 rfl rfl; have cf2_5 := F2.out.f 2 5 rfl rfl; have cf2_6 := F2.out.f 2 6 rfl rfl) | fail)
  have FZ := F2.out.set 2 rfl (by simp) [.slice none 0 0, .slice none 0 0, .slice none 0 0, .slice none 0 0, .slice none 0 0, .slice none 0 0, .slice none 0 0] rfl
  simp only [setL, Nat.reduceAdd, List.set_cons_zero, List.set_cons_succ] at FZ
  have y0 := FZ.c 2 0 rfl rfl
  have y1 := FZ.c 2 1 rfl rfl
  have y2 := FZ.c 2 2 rfl rfl
  have y3 := FZ.c 2 3 rfl rfl
  have y4 := FZ.c 2 4 rfl rfl
  have y5 := FZ.c 2 5 rfl rfl
  have y6 := FZ.c 2 6 rfl rfl
  refine bodyPost_ret (v := .tuple #[.agg #[.slice none 0 0, .slice none 0 0, .slice none 0 0, .slice none 0 0, .slice none 0 0, .slice none 0 0, .slice none 0 0], .slice none 0 0, .int .i64 1]) ?_ rfl ⟨rfl, FZ.bel⟩
  rw [results_ctt rfl]
  go_simp
set_option maxRecDepth 100000 in
set_option maxHeartbeats 1000000 in
theorem win_bad (a b : Option Addr) (c d : Nat) (xs ys : List Int) (aK aS aP aD : Option Addr) (cK cS cP cD : Nat) (wv : WinV) (w : World) (h : Ints .i64 w w.heap.size a xs) (h2 : Ints .i64 w w.heap.size b ys) (hK : Ints .i64 w w.heap.size aK wv.K) (hS : Ints .i64 w w.heap.size aS wv.S) (hP : Ints .i64 w w.heap.size aP wv.P) (hD : Ints .i64 w w.heap.size aD wv.D) (hL : wv.L = xs.drop 2) (hc1 : xs.length ≤ c) (hc2 : c ≤ 9223372036854775807) (ht : tenB xs ys = true) (hz : outZ xs wv ≠ 0) :
    Calls Try.prog 32 #[.agg #[.slice a xs.length c, .slice b ys.length d], .agg #[.slice aK wv.K.length cK, .slice aS wv.S.length cS, .slice aP wv.P.length cP, .slice aD wv.D.length cD]] w (fun e w' => e = .returned (.tuple #[.agg #[.slice none 0 0, .slice none 0 0, .slice none 0 0, .slice none 0 0, .slice none 0 0, .slice none 0 0, .slice none 0 0], .slice none 0 0, .int .i64 (outZ xs wv)]) ∧ Below w.heap.size w w') := by
  have heg := fun W (h : Ints .i64 W W.heap.size a xs) (h2 : Ints .i64 W W.heap.size b ys) => elemGood_any a b c d xs ys W h h2
  rw [ht] at heg
  have HEG := Lib.hid heg
  have hg := (tenB_iff.1 ht).1
  have HOUT := Lib.hid (fun W (h : Ints .i64 W W.heap.size a xs) hK hS hP hD => out_else a c xs aK aS aP aD cK cS cP cD wv W h hK hS hP hD hL hg hc1 hc2 hz)
  obtain ⟨Z, hZ⟩ : ∃ z, outZ xs wv = z := ⟨_, rfl⟩
  rw [hZ] at HOUT ⊢
  clear hZ
  have F1 := Lib.hid ((((Fr.start (w := w) (I := [(.i64, a, xs), (.i64, b, ys), (.i64, aK, wv.K), (.i64, aS, wv.S), (.i64, aP, wv.P), (.i64, aD, wv.D)]) (by intro z hz; simp at hz; rcases hz with rfl | rfl | rfl | rfl | rfl | rfl; exact h; exact h2; exact hK; exact hS; exact hP; exact hD)).box1 (b := w.heap.size) rfl [.slice a xs.length c, .slice b ys.length d] 26).box1 (b := w.heap.size + 1) (by simp) [.slice aK wv.K.length cK, .slice aS wv.S.length cS, .slice aP wv.P.length cP, .slice aD wv.D.length cD] 28).box1 (b := w.heap.size + 1 + 1) (by simp) [.slice none 0 0, .slice none 0 0, .slice none 0 0, .slice none 0 0, .slice none 0 0, .slice none 0 0, .slice none 0 0] 68)
  simp only [List.nil_append, List.cons_append] at F1
  clear heg h h2 hK hS hP hD ht hL hz hg
  go_enter Try.func32, Try.ntmps32
  go_upto_region 1 with fail
  obtain ⟨W1, hW1⟩ : ∃ W1, ((w.alloc (.cells #[.slice a xs.length c, .slice b ys.length d] 26)).alloc (.cells #[.slice aK wv.K.length cK, .slice aS wv.S.length cS, .slice aP wv.P.length cP, .slice aD wv.D.length cD] 28)).alloc (.cells #[.slice none 0 0, .slice none 0 0, .slice none 0 0, .slice none 0 0, .slice none 0 0, .slice none 0 0, .slice none 0 0] 68) = W1 := ⟨_, rfl⟩
  rw [hW1] at F1 ⊢
  clear hW1
  have c0_0 := F1.out.c 0 0 rfl rfl
  have c0_1 := F1.out.c 0 1 rfl rfl
  go_wp2_with (first | (go_at_call 55; refine (HEG.out _ (F1.out.lw 0 rfl) (F1.out.lw 1 rfl)).mono ?_; rintro e w2 ⟨rfl, hb⟩; have F2 := Lib.hid (F1.out.next hb); clear hb F1 c0_0 c0_1; have c0_0 := F2.out.c 0 0 rfl rfl; have c0_1 := F2.out.c 0 1 rfl rfl; have c1_0 := F2.out.c 1 0 rfl rfl; have c1_1 := F2.out.c 1 1 rfl rfl; have c1_2 := F2.out.c 1 2 rfl rfl; have c1_3 := F2.out.c 1 3 rfl rfl) | (go_at_call 56; refine (HOUT.out _ (F2.out.lw 0 rfl) (F2.out.lw 2 rfl) (F2.out.lw 3 rfl) (F2.out.lw 4 rfl) (F2.out.lw 5 rfl)).mono ?_; rintro e w3 ⟨rfl, hb⟩; have F3 := Lib.hid (F2.out.next hb); clear hb F2 c0_0 c0_1 c1_0 c1_1 c1_2 c1_3; have c2_0 := F3.out.c 2 0 rfl rfl; have c2_1 := F3.out.c 2 1 rfl rfl; have c2_2 := F3.out.c 2 2 rfl rfl; have c2_3 := F3.out.c 2 3 rfl rfl; have c2_4 := F3.out.c 2 4 rfl rfl; have c2_5 := F3.out.c 2 5 rfl rfl; have c2_6 := F3.out.c 2 6 rfl rfl; have cf2_0 := F3.out.f 2 0 rfl rfl; have cf2_1 := F3.out.f 2 1 rfl rfl; have cf2_2 := F3.out.f 2 2 rfl rfl; have cf2_3 := F3.out.f 2 3 rfl rfl; have cf2_4 := F3.out.f 2 4 rfl rfl; have cf2_5 := F3.out.f 2 5 rfl rfl; have cf2_6 := F3.out.f 2 6 rfl rfl) | fail)
  have FZ := F3.out.set 2 rfl (by simp) [.slice none 0 0, .slice none 0 0, .slice none 0 0, .slice none 0 0, .slice none 0 0, .slice none 0 0, .slice none 0 0] rfl
  simp only [setL, Nat.reduceAdd, List.set_cons_zero, List.set_cons_succ] at FZ
  have y0 := FZ.c 2 0 rfl rfl
  have y1 := FZ.c 2 1 rfl rfl
  have y2 := FZ.c 2 2 rfl rfl
  have y3 := FZ.c 2 3 rfl rfl
  have y4 := FZ.c 2 4 rfl rfl
  have y5 := FZ.c 2 5 rfl rfl
  have y6 := FZ.c 2 6 rfl rfl
  refine bodyPost_ret (v := .tuple #[.agg #[.slice none 0 0, .slice none 0 0, .slice none 0 0, .slice none 0 0, .slice none 0 0, .slice none 0 0, .slice none 0 0], .slice none 0 0, .int .i64 Z]) ?_ rfl ⟨rfl, FZ.bel⟩
  rw [results_ctt rfl]
  go_simp
set_option maxRecDepth 100000 in
set_option maxHeartbeats 1000000 in
theorem win_ok (a b : Option Addr) (c d : Nat) (xs ys : List Int) (aK aS aP aD : Option Addr) (cK cS cP cD : Nat) (wv : WinV) (w : World) (h : Ints .i64 w w.heap.size a xs) (h2 : Ints .i64 w w.heap.size b ys) (hK : Ints .i64 w w.heap.size aK wv.K) (hS : Ints .i64 w w.heap.size aS wv.S) (hP : Ints .i64 w w.heap.size aP wv.P) (hD : Ints .i64 w w.heap.size aD wv.D) (hL : wv.L = xs.drop 2) (hc1 : xs.length ≤ c) (hc2 : c ≤ 9223372036854775807) (ht : tenB xs ys = true) (hz : outZ xs wv = 0) :
    Calls Try.prog 32 #[.agg #[.slice a xs.length c, .slice b ys.length d], .agg #[.slice aK wv.K.length cK, .slice aS wv.S.length cS, .slice aP wv.P.length cP, .slice aD wv.D.length cD]] w (fun e w' => ∃ aL cL aO cO as_ cs_, e = .returned (.tuple #[.agg #[.slice aL wv.L.length cL, .slice aK wv.K.length cK, .slice aO wv.O.length cO, .slice aK wv.K.length cK, .slice aS wv.S.length cS, .slice aP wv.P.length cP, .slice aD wv.D.length cD], .slice as_ (poS xs wv).length cs_, .int .i64 0]) ∧ (∃ b0 o0, a = some ⟨b0, o0, none⟩ ∧ aL = some ⟨b0, o0 + 2, none⟩) ∧ Fr w.heap.size w w' [] [] [⟨3, .slice aO wv.O.length cO, wv.O.length, wv.O.map (Value.int .i64)⟩, ⟨3, .slice as_ (poS xs wv).length cs_, (poS xs wv).length, (poS xs wv).map (Value.int .i64)⟩] []) := by
  have heg := fun W (h : Ints .i64 W W.heap.size a xs) (h2 : Ints .i64 W W.heap.size b ys) => elemGood_any a b c d xs ys W h h2
  rw [ht] at heg
  have HEG := Lib.hid heg
  have hg := (tenB_iff.1 ht).1
  have HOUT := Lib.hid (fun W (h : Ints .i64 W W.heap.size a xs) hK hS hP hD => out_zero a c xs aK aS aP aD cK cS cP cD wv W h hK hS hP hD hL hg hc1 hc2 hz)
  obtain ⟨S, hS_⟩ : ∃ s, poS xs wv = s := ⟨_, rfl⟩
  rw [hS_] at HOUT ⊢
  clear hS_
  have F1 := Lib.hid ((((Fr.start (w := w) (I := [(.i64, a, xs), (.i64, b, ys), (.i64, aK, wv.K), (.i64, aS, wv.S), (.i64, aP, wv.P), (.i64, aD, wv.D)]) (by intro z hz; simp at hz; rcases hz with rfl | rfl | rfl | rfl | rfl | rfl; exact h; exact h2; exact hK; exact hS; exact hP; exact hD)).box1 (b := w.heap.size) rfl [.slice a xs.length c, .slice b ys.length d] 26).box1 (b := w.heap.size + 1) (by simp) [.slice aK wv.K.length cK, .slice aS wv.S.length cS, .slice aP wv.P.length cP, .slice aD wv.D.length cD] 28).box1 (b := w.heap.size + 1 + 1) (by simp) [.slice none 0 0, .slice none 0 0, .slice none 0 0, .slice none 0 0, .slice none 0 0, .slice none 0 0, .slice none 0 0] 68)
  simp only [List.nil_append, List.cons_append] at F1
  clear heg h h2 hK hS hP hD ht hL hz hg
  go_enter Try.func32, Try.ntmps32
  go_upto_region 1 with fail
  obtain ⟨W1, hW1⟩ : ∃ W1, ((w.alloc (.cells #[.slice a xs.length c, .slice b ys.length d] 26)).alloc (.cells #[.slice aK wv.K.length cK, .slice aS wv.S.length cS, .slice aP wv.P.length cP, .slice aD wv.D.length cD] 28)).alloc (.cells #[.slice none 0 0, .slice none 0 0, .slice none 0 0, .slice none 0 0, .slice none 0 0, .slice none 0 0, .slice none 0 0] 68) = W1 := ⟨_, rfl⟩
  rw [hW1] at F1 ⊢
  clear hW1
  have c0_0 := F1.out.c 0 0 rfl rfl
  have c0_1 := F1.out.c 0 1 rfl rfl
  go_wp2_with (first | (go_at_call 55; refine (HEG.out _ (F1.out.lw 0 rfl) (F1.out.lw 1 rfl)).mono ?_; rintro e w2 ⟨rfl, hb⟩; have F2 := Lib.hid (F1.out.next hb); clear hb F1 c0_0 c0_1; have c0_0 := F2.out.c 0 0 rfl rfl; have c0_1 := F2.out.c 0 1 rfl rfl; have c1_0 := F2.out.c 1 0 rfl rfl; have c1_1 := F2.out.c 1 1 rfl rfl; have c1_2 := F2.out.c 1 2 rfl rfl; have c1_3 := F2.out.c 1 3 rfl rfl) | (go_at_call 56; refine (HOUT.out _ (F2.out.lw 0 rfl) (F2.out.lw 2 rfl) (F2.out.lw 3 rfl) (F2.out.lw 4 rfl) (F2.out.lw 5 rfl)).mono ?_; rintro e w3 ⟨aL, cL, aO, cO, as_, cs_, rfl, hIL, hf⟩; have HIL := Lib.hid hIL; have F3 := Lib.hid (F2.out.join hf); simp only [List.nil_append, List.cons_append] at F3; clear hf hIL F2 c0_0 c0_1 c1_0 c1_1 c1_2 c1_3; have c2_0 := F3.out.c 2 0 rfl rfl; have c2_1 := F3.out.c 2 1 rfl rfl; have c2_2 := F3.out.c 2 2 rfl rfl; have c2_3 := F3.out.c 2 3 rfl rfl; have c2_4 := F3.out.c 2 4 rfl rfl; have c2_5 := F3.out.c 2 5 rfl rfl; have c2_6 := F3.out.c 2 6 rfl rfl; have cf2_0 := F3.out.f 2 0 rfl rfl; have cf2_1 := F3.out.f 2 1 rfl rfl; have cf2_2 := F3.out.f 2 2 rfl rfl; have cf2_3 := F3.out.f 2 3 rfl rfl; have cf2_4 := F3.out.f 2 4 rfl rfl; have cf2_5 := F3.out.f 2 5 rfl rfl; have cf2_6 := F3.out.f 2 6 rfl rfl) | fail)
  have FZ := F3.out.set 2 rfl (by simp) [.slice aL wv.L.length cL, .slice aK wv.K.length cK, .slice aO wv.O.length cO, .slice aK wv.K.length cK, .slice aS wv.S.length cS, .slice aP wv.P.length cP, .slice aD wv.D.length cD] rfl
  simp only [setL, Nat.reduceAdd, List.set_cons_zero, List.set_cons_succ] at FZ
  have y0 := FZ.c 2 0 rfl rfl
  have y1 := FZ.c 2 1 rfl rfl
  have y2 := FZ.c 2 2 rfl rfl
  have y3 := FZ.c 2 3 rfl rfl
  have y4 := FZ.c 2 4 rfl rfl
  have y5 := FZ.c 2 5 rfl rfl
  have y6 := FZ.c 2 6 rfl rfl
  refine bodyPost_ret (v := .tuple #[.agg #[.slice aL wv.L.length cL, .slice aK wv.K.length cK, .slice aO wv.O.length cO, .slice aK wv.K.length cK, .slice aS wv.S.length cS, .slice aP wv.P.length cP, .slice aD wv.D.length cD], .slice as_ S.length cs_, .int .i64 0]) ?_ rfl ⟨_, _, _, _, _, _, rfl, HIL.out, FZ.rows⟩
  rw [results_ctt rfl]
  go_simp
end Go.Proofs.Ytmjcpgfekpedkaa
