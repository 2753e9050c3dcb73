/- Walks: the reference's Pair. -/
import Derived.Test.YtddhhfhammmaaaaGreatMXP
import Derived.Test.YtddhhfhammmaaaaGreatMXAll
set_option linter.unusedVariables false
set_option linter.unusedSimpArgs false
namespace Go.Proofs.YtddhhfhammmaaaaGreat
open Go.RowKit Go.Rt
/-- A list of two numbers, just made. -/
def IsTwo (x y : Int) (u : Value) (W : World) : Prop := ∃ g cap, u = .slice (some ⟨g, 0, none⟩) 2 cap ∧ W.cell? ⟨g, 0, none⟩ = some (.int .i64 x) ∧ W.cell? ⟨g, 1, none⟩ = some (.int .i64 y)
theorem isTwo_carries (x y : Int) : Carries (IsTwo x y) := fun u w w' ⟨g, cap, h1, h2, h3⟩ hb => ⟨g, cap, h1, (hb.cell (p := ⟨g, 0, none⟩) (World.block_lt_of_cell? w _ h2)).trans h2, (hb.cell (p := ⟨g, 1, none⟩) (World.block_lt_of_cell? w _ h3)).trans h3⟩
theorem twoNew (w : World) (x y : Int) (T : TypeId) : (w.alloc (.cells #[.int .i64 x, .int .i64 y] T)).cell? ⟨w.heap.size, 0, none⟩ = some (.int .i64 x) ∧ (w.alloc (.cells #[.int .i64 x, .int .i64 y] T)).cell? ⟨w.heap.size, 1, none⟩ = some (.int .i64 y) := by
  constructor <;> simp [go_sem]
theorem ints_take {W : World} {a : Option Addr} {xs : List Int} (h : Ints .i64 W W.heap.size a xs) (n : Nat) : Ints .i64 W W.heap.size a (xs.take n) :=
  ⟨by have := h.len; rw [List.length_take]; omega, fun x hx => h.wf x (List.mem_of_mem_take hx), fun i hi => by
    rw [List.length_take] at hi
    obtain ⟨b, o, ha, hl, hc⟩ := h.cell i (by omega)
    exact ⟨b, o, ha, hl, by rw [List.getElem?_take, if_pos (by omega)]; exact hc⟩⟩
theorem wf_within {xs is : List Int} (hd : Dims xs) (h : withinB xs is = true) : ∀ x ∈ is, (Lit.int .i64 x).wf = true := by
  intro x hx
  obtain ⟨i, hi, rfl⟩ := List.getElem_of_mem hx
  obtain ⟨h1, h2⟩ := withinB_iff.1 h
  obtain ⟨h3, h4⟩ := h2 i (by omega)
  rw [List.getElem?_eq_getElem hi, Option.getD_some] at h3 h4
  rw [List.getElem?_eq_getElem (by omega), Option.getD_some] at h4
  have := hd.at (show i < xs.length by omega)
  exact wf_i64_iff.2 ⟨by omega, by omega⟩
set_option maxRecDepth 100000 in
set_option maxHeartbeats 2000000 in
theorem rpair_any (a b ai : Option Addr) (c d ci : Nat) (xs ys is : List Int) (k : Int) (w : World) (h : Ints .i64 w w.heap.size a xs) (h2 : Ints .i64 w w.heap.size b ys) (h3 : Ints .i64 w w.heap.size ai is) (gx : goodB xs = true) (gy : goodB ys = true) (hl : is.length = xs.length) (hn2 : 2 ≤ xs.length) (hci : is.length ≤ ci ∧ ci ≤ 9223372036854775807)
    (hw1 : withinB xs (pairX xs.length is k) = true) (hw2 : withinB ys (pairY ys.length xs.length is k) = true) :
    Calls Tryz.prog 21 #[.slice a xs.length c, .slice b ys.length d, .slice ai is.length ci, .int .i64 k] w fun e w' => e = .returned (.tuple #[.int .i64 (placeI xs (pairX xs.length is k)), .int .i64 (placeI ys (pairY ys.length xs.length is k))]) ∧ Below w.heap.size w w' := by
  have H0 := Lib.hid h
  have H1 := Lib.hid h2
  have H2 := Lib.hid h3
  have h4 := (goodB_iff.1 gx).1
  have hwx := wf_within (goodB_dims gx) hw1
  have hwy := wf_within (goodB_dims gy) hw2
  obtain ⟨n, hn⟩ : ∃ n, xs.length = n := ⟨_, rfl⟩
  have hN := Lib.hid hn
  rw [hn] at hwx hwy hw1 hw2 hl hn2 h4 ⊢
  obtain ⟨X, hX⟩ : ∃ l, pairX n is k = l := ⟨_, rfl⟩
  obtain ⟨Y, hY⟩ : ∃ l, pairY ys.length n is k = l := ⟨_, rfl⟩
  rw [hX] at hwx hw1 ⊢
  rw [hY] at hwy hw2 ⊢
  have HRX := Lib.hid (fun (p : Option Addr) (q : Nat) W (h : Ints .i64 W W.heap.size a xs) (h2 : Ints .i64 W W.heap.size p X) => rindex_any a p c q xs X W h h2 gx hw1)
  have HRY := Lib.hid (fun (p : Option Addr) (q : Nat) W (h : Ints .i64 W W.heap.size b ys) (h2 : Ints .i64 W W.heap.size p Y) => rindex_any b p d q ys Y W h h2 gy hw2)
  rw [hn] at HRX
  have hXl : X.length = n := by rw [withinB_length hw1, hn]
  have hX2 : X = is.take (n - 1) ++ [k] := hX.symm
  rw [hXl] at HRX
  have HX := Lib.hid hX2
  have HXl := Lib.hid hXl
  have HWX := Lib.hid hwx
  have HWY := Lib.hid hwy
  obtain ⟨gi, oi, rfl, hli, hci2⟩ := h3.cell (n - 1) (by omega)
  obtain ⟨r, hr⟩ : ∃ r, is[n - 1]?.getD 0 = r := ⟨_, rfl⟩
  rw [hr] at hci2
  have hc0 := fun W => copyNumbers_any (some ⟨gi, oi, none⟩) ci (is.take (n - 1)) W
  have e0 : (is.take (n - 1)).length = n - 1 := by rw [List.length_take]; omega
  rw [e0] at hc0
  have HC0 := Lib.hid hc0
  have HCI := Lib.hid hci2
  have HE0 := Lib.hid e0
  clear h h2 h3 gx gy hwx hwy hw1 hw2 hX hX2 hXl hci2 hc0 e0
  have hYc : Y = if 2 < ys.length then is.take (n - 2) ++ [k, r] else [k, r] := by rw [← hY, ← hr]; rfl
  have HYC := Lib.hid hYc
  clear hY hYc hr hn
  go_enter Tryz.func21, Tryz.ntmps21
  have F1 := Lib.hid (Fr.start (w := w) (I := [(.i64, a, xs), (.i64, b, ys), (.i64, some ⟨gi, oi, none⟩, is)]) (by intro z hz; simp at hz; rcases hz with rfl | rfl | rfl; exact H0.out; exact H1.out; exact H2.out))
  skip
  have hs1 : (0 : Int) ≤ (n : Int) - 1 := by omega
  have hs2 : (n : Int) - 1 ≤ (ci : Int) := by omega
  have hs3 : n - 1 ≤ 1000000 := by omega
  have hs8 : n - 1 + 1 = n := by omega
  have HS8 := Lib.hid hs8
  have HS3 := Lib.hid hs3
  clear hs3 hs8
  have hs4 : IntKind.i64.wrap ((n : Int) - 1) = ((n - 1 : Nat) : Int) := by rw [IntWalk.i64_in _ (by omega)]; omega
  replace hs4 : ∀ [Inhabited Unit], IntKind.i64.wrap ((n : Int) - 1) = ((n - 1 : Nat) : Int) := hs4
  have hs5 : n - 1 ≤ ci := by omega
  skip
  skip
  go_upto_region 3 with (first | (go_at_call 32; refine (HC0.out _ (ints_take (F1.out.lw 2 rfl) _) (by omega)).mono ?_; rintro e w3 ⟨v, rfl, hown, hb⟩; rw [HE0.out] at hown; obtain ⟨a3, c3, rfl, _⟩ := own_shape hown; have F3 := Lib.hid (F1.out.addO hb hown); simp only [List.nil_append] at F3; clear hown hb F1) | (at_builtin; go_loud ((refine appendI w.heap.size (.slice a3 (n - 1) c3) (n - 1) (is.take (n - 1)) k _ _ _ rfl rfl rfl (F3.out.r 0 rfl) rfl HS3.out F3.out.hlo ?_); intro v' w4 hown _ hgr hob; rw [← HX.out, HS8.out] at hown; obtain ⟨a4, c4, rfl, _⟩ := own_shape hown; have F4 := Lib.hid (F3.out.wroteO 0 rfl hgr hown (fun g hg => by rcases hob with h | h; exact .inl (h.symm.trans hg); exact .inr (by have h5 := h.symm.trans hg; injection h5 with h5; omega))); simp only [List.set_cons_zero] at F4; clear hown hgr hob F3)) | fail)
  obtain ⟨W4, hW4⟩ : ∃ x : World, x = w4 := ⟨w4, rfl⟩
  obtain rfl := hW4
  have hcr := (F4.out.bel.cell (p := ⟨gi, oi + (n - 1), none⟩) hli).trans HCI.out
  have hs7 : ((n - 1 : Nat) : Int) < (is.length : Int) := by omega
  go_upto_region 4 with fail
  by_cases hB : 2 < ys.length
  · skip
    have hBi : (2 : Int) < (ys.length : Int) := by omega
    have hYq : Y = is.take (n - 2) ++ [k, r] := by rw [HYC.out, if_pos hB]
    have HYQ := Lib.hid hYq
    have hYl : Y.length = n := by rw [hYq]; simp; omega
    rw [hYl] at HRY
    have F5 := Lib.hid (F4.out.next ((Below.refl _ _).alloc (Nat.le_refl _) (.cells #[.int .i64 k, .int .i64 r] 3)))
    clear hYq hYl F4 hcr
    obtain ⟨W5, hW5⟩ : ∃ x, W4.alloc (.cells #[.int .i64 k, .int .i64 r] 3) = x := ⟨_, rfl⟩
    rw [hW5] at F5 ⊢
    clear hW5
    have hc0 := fun W => copyNumbers_any (some ⟨gi, oi, none⟩) ci (is.take (n - 2)) W
    have e0 : (is.take (n - 2)).length = n - 2 := by rw [List.length_take]; omega
    rw [e0] at hc0
    have HC5 := Lib.hid hc0
    have HE5 := Lib.hid e0
    clear hc0 e0
    go_wp2_with fail
    refine wp_region_parts2 (w := W5) 12 2 none [] [(fun u _ => u = .slice (some ⟨gi, oi, none⟩) is.length ci), (fun u _ => u = .int .i64 (n : Int)), (fun u _ => u = .int .i64 ((n - 2 : Nat) : Int)), (fun u _ => u = .slice (some ⟨gi, oi, none⟩) (n - 2) ci), ((IsRow W5.heap.size 3 (n - 2) ((is.take (n - 2)).map (Value.int .i64)))), (fun u _ => u = .int .i64 k), (fun u _ => u = .slice (some ⟨gi, oi, none⟩) is.length ci), (fun u _ => u = .int .i64 (n : Int)), (fun u _ => u = .int .i64 ((n - 1 : Nat) : Int)), (fun u _ => u = .pointer (some ⟨gi, oi + (n - 1), none⟩)), (fun u _ => u = .int .i64 r), ((IsTwo k r))] [some 33, some 34, some 35, some 36, some 37, some 38, some 39, some 40, some 41, some 42, some 43, some 44, some 45, some 12] #[true, true, true, true, true, true, true, true, true, true, true, true, false, false] #[true, true, true, true, true, true, true, true, true, true, true, true, false, false] (by kernel_rfl) rfl (by kernel_rfl) (by kernel_rfl) rfl (by kernel_rfl) (by kernel_rfl) (.cons (carries_eq _) (.cons (carries_eq _) (.cons (carries_eq _) (.cons (carries_eq _) (.cons (isRow_carries _ _ _ _) (.cons (carries_eq _) (.cons (carries_eq _) (.cons (carries_eq _) (.cons (carries_eq _) (.cons (carries_eq _) (.cons (carries_eq _) (.cons (isTwo_carries _ _) .nil)))))))))))) (fun vs b hvl hvb => ?_)
    obtain ⟨x0, x1, x2, x3, x4, x5, x6, x7, x8, x9, x10, x11, x12, x13, rfl⟩ : ∃ x0 x1 x2 x3 x4 x5 x6 x7 x8 x9 x10 x11 x12 x13, vs = [x0, x1, x2, x3, x4, x5, x6, x7, x8, x9, x10, x11, x12, x13] := lst14 hvl
    clear hvl
    simp only [putAll, Act.put, List.setIfInBounds_toArray, List.set_cons_zero, List.set_cons_succ] at hvb
    subst hvb
    refine ⟨(.snoc (.snoc (.snoc (.snoc (.snoc (.snoc (.snoc (.snoc (.snoc (.snoc (.snoc (.snoc .zero (PartOb.intro (d := (some 33)) (r := fun u _ => u = .slice (some ⟨gi, oi, none⟩) is.length ci) rfl rfl rfl rfl ?po5x0)) (PartOb.intro (d := (some 34)) (r := fun u _ => u = .int .i64 (n : Int)) rfl rfl rfl rfl ?po5x1)) (PartOb.intro (d := (some 35)) (r := fun u _ => u = .int .i64 ((n - 2 : Nat) : Int)) rfl rfl rfl rfl ?po5x2)) (PartOb.intro (d := (some 36)) (r := fun u _ => u = .slice (some ⟨gi, oi, none⟩) (n - 2) ci) rfl rfl rfl rfl ?po5x3)) (PartOb.intro (d := (some 37)) (r := (IsRow W5.heap.size 3 (n - 2) ((is.take (n - 2)).map (Value.int .i64)))) rfl rfl rfl rfl ?po5x4)) (PartOb.intro (d := (some 38)) (r := fun u _ => u = .int .i64 k) rfl rfl rfl rfl ?po5x5)) (PartOb.intro (d := (some 39)) (r := fun u _ => u = .slice (some ⟨gi, oi, none⟩) is.length ci) rfl rfl rfl rfl ?po5x6)) (PartOb.intro (d := (some 40)) (r := fun u _ => u = .int .i64 (n : Int)) rfl rfl rfl rfl ?po5x7)) (PartOb.intro (d := (some 41)) (r := fun u _ => u = .int .i64 ((n - 1 : Nat) : Int)) rfl rfl rfl rfl ?po5x8)) (PartOb.intro (d := (some 42)) (r := fun u _ => u = .pointer (some ⟨gi, oi + (n - 1), none⟩)) rfl rfl rfl rfl ?po5x9)) (PartOb.intro (d := (some 43)) (r := fun u _ => u = .int .i64 r) rfl rfl rfl rfl ?po5x10)) (PartOb.intro (d := (some 44)) (r := (IsTwo k r)) rfl rfl rfl rfl ?po5x11)), ?pend5, ?pfl5⟩
    case po5x0 =>
      intro w1 hb1 hd KK hK
      clear hd
      simp only [Act.put, List.setIfInBounds_toArray, List.set_cons_zero, List.set_cons_succ] at hK
      go_simp
      first | exact hK.out _ _ (Below.refl _ _) rfl | (have hk := hK.out _ _ (Below.refl _ _) rfl; revert hk; go_simp)
    case po5x1 =>
      intro w1 hb1 hd KK hK
      clear hd
      simp only [Act.put, List.setIfInBounds_toArray, List.set_cons_zero, List.set_cons_succ] at hK
      go_simp
      first | exact hK.out _ _ (Below.refl _ _) rfl | (have hk := hK.out _ _ (Below.refl _ _) rfl; revert hk; go_simp)
    case po5x2 =>
      intro w1 hb1 hd KK hK
      have d1 : x1 = .int .i64 (n : Int) := hd 1 (by kernel_rfl)
      clear hd
      subst d1
      have q4 : ∀ [Inhabited Unit], IntKind.i64.wrap ((n : Int) - 2) = ((n - 2 : Nat) : Int) := by intro _; rw [IntWalk.i64_in _ (by omega)]; omega
      simp only [Act.put, List.setIfInBounds_toArray, List.set_cons_zero, List.set_cons_succ] at hK
      go_simp
      first | exact hK.out _ _ (Below.refl _ _) rfl | (have hk := hK.out _ _ (Below.refl _ _) rfl; revert hk; go_simp)
    case po5x3 =>
      intro w1 hb1 hd KK hK
      have d0 : x0 = .slice (some ⟨gi, oi, none⟩) is.length ci := hd 0 (by kernel_rfl)
      have d2 : x2 = .int .i64 ((n - 2 : Nat) : Int) := hd 2 (by kernel_rfl)
      clear hd
      subst d0
      subst d2
      have g1_ : (0 : Int) ≤ ((n - 2 : Nat) : Int) := by omega
      have g2_ : ((n - 2 : Nat) : Int) ≤ (ci : Int) := by omega
      simp only [Act.put, List.setIfInBounds_toArray, List.set_cons_zero, List.set_cons_succ] at hK
      go_simp
      first | exact hK.out _ _ (Below.refl _ _) rfl | (have hk := hK.out _ _ (Below.refl _ _) rfl; revert hk; go_simp)
    case po5x4 =>
      intro w1 hb1 hd KK hK
      have d3 : x3 = .slice (some ⟨gi, oi, none⟩) (n - 2) ci := hd 3 (by kernel_rfl)
      clear hd
      subst d3
      simp only [Act.put, List.setIfInBounds_toArray, List.set_cons_zero, List.set_cons_succ] at hK
      go_simp
      go_at_call 32
      refine (HC5.out w1 (ints_take ((F5.out.next hb1).lw 2 rfl) _) (by omega)).mono ?_
      rintro e w2 ⟨v, rfl, hown, hb⟩
      rw [HE5.out] at hown
      obtain ⟨a2, c2, rfl, _⟩ := own_shape hown
      (try go_wp2_with fail)
      first | exact hK.out _ _ hb ⟨a2, c2, rfl, own_mono hown hb1.size⟩ | (have hk := hK.out _ _ hb ⟨a2, c2, rfl, own_mono hown hb1.size⟩; revert hk; go_simp)
    case po5x5 =>
      intro w1 hb1 hd KK hK
      clear hd
      simp only [Act.put, List.setIfInBounds_toArray, List.set_cons_zero, List.set_cons_succ] at hK
      go_simp
      first | exact hK.out _ _ (Below.refl _ _) rfl | (have hk := hK.out _ _ (Below.refl _ _) rfl; revert hk; go_simp)
    case po5x6 =>
      intro w1 hb1 hd KK hK
      clear hd
      simp only [Act.put, List.setIfInBounds_toArray, List.set_cons_zero, List.set_cons_succ] at hK
      go_simp
      first | exact hK.out _ _ (Below.refl _ _) rfl | (have hk := hK.out _ _ (Below.refl _ _) rfl; revert hk; go_simp)
    case po5x7 =>
      intro w1 hb1 hd KK hK
      clear hd
      simp only [Act.put, List.setIfInBounds_toArray, List.set_cons_zero, List.set_cons_succ] at hK
      go_simp
      first | exact hK.out _ _ (Below.refl _ _) rfl | (have hk := hK.out _ _ (Below.refl _ _) rfl; revert hk; go_simp)
    case po5x8 =>
      intro w1 hb1 hd KK hK
      have d7 : x7 = .int .i64 (n : Int) := hd 7 (by kernel_rfl)
      clear hd
      subst d7
      have q4 : ∀ [Inhabited Unit], IntKind.i64.wrap ((n : Int) - 1) = ((n - 1 : Nat) : Int) := by intro _; rw [IntWalk.i64_in _ (by omega)]; omega
      simp only [Act.put, List.setIfInBounds_toArray, List.set_cons_zero, List.set_cons_succ] at hK
      go_simp
      first | exact hK.out _ _ (Below.refl _ _) rfl | (have hk := hK.out _ _ (Below.refl _ _) rfl; revert hk; go_simp)
    case po5x9 =>
      intro w1 hb1 hd KK hK
      have d6 : x6 = .slice (some ⟨gi, oi, none⟩) is.length ci := hd 6 (by kernel_rfl)
      have d8 : x8 = .int .i64 ((n - 1 : Nat) : Int) := hd 8 (by kernel_rfl)
      clear hd
      subst d6
      subst d8
      have q5 : n - 1 < n := by omega
      simp only [Act.put, List.setIfInBounds_toArray, List.set_cons_zero, List.set_cons_succ] at hK
      go_simp
      first | exact hK.out _ _ (Below.refl _ _) rfl | (have hk := hK.out _ _ (Below.refl _ _) rfl; revert hk; go_simp)
    case po5x10 =>
      intro w1 hb1 hd KK hK
      have d9 : x9 = .pointer (some ⟨gi, oi + (n - 1), none⟩) := hd 9 (by kernel_rfl)
      clear hd
      subst d9
      have hcr := ((F5.out.next hb1).bel.cell (p := ⟨gi, oi + (n - 1), none⟩) hli).trans HCI.out
      simp only [Act.put, List.setIfInBounds_toArray, List.set_cons_zero, List.set_cons_succ] at hK
      go_simp
      first | exact hK.out _ _ (Below.refl _ _) rfl | (have hk := hK.out _ _ (Below.refl _ _) rfl; revert hk; go_simp)
    case po5x11 =>
      intro w1 hb1 hd KK hK
      have d5 : x5 = .int .i64 k := hd 5 (by kernel_rfl)
      have d10 : x10 = .int .i64 r := hd 10 (by kernel_rfl)
      clear hd
      subst d5
      subst d10
      simp only [Act.put, List.setIfInBounds_toArray, List.set_cons_zero, List.set_cons_succ] at hK
      go_simp
      first | exact hK.out _ _ ((Below.refl _ _).alloc (Nat.le_refl _) _) ⟨_, _, rfl, twoNew w1 k r _⟩ | (have hk := hK.out _ _ ((Below.refl _ _).alloc (Nat.le_refl _) _) ⟨_, _, rfl, twoNew w1 k r _⟩; revert hk; go_simp)
    case pfl5 => (intro f hf; cases hf)
    case pend5 =>
    intro w1 hb1 hR hD
    have d0 : x0 = .slice (some ⟨gi, oi, none⟩) is.length ci := hR 0 (by decide)
    have d1 : x1 = .int .i64 (n : Int) := hR 1 (by decide)
    have d2 : x2 = .int .i64 ((n - 2 : Nat) : Int) := hR 2 (by decide)
    have d3 : x3 = .slice (some ⟨gi, oi, none⟩) (n - 2) ci := hR 3 (by decide)
    have d4 : (IsRow W5.heap.size 3 (n - 2) ((is.take (n - 2)).map (Value.int .i64))) x4 w1 := hR 4 (by decide)
    have d5 : x5 = .int .i64 k := hR 5 (by decide)
    have d6 : x6 = .slice (some ⟨gi, oi, none⟩) is.length ci := hR 6 (by decide)
    have d7 : x7 = .int .i64 (n : Int) := hR 7 (by decide)
    have d8 : x8 = .int .i64 ((n - 1 : Nat) : Int) := hR 8 (by decide)
    have d9 : x9 = .pointer (some ⟨gi, oi + (n - 1), none⟩) := hR 9 (by decide)
    have d10 : x10 = .int .i64 r := hR 10 (by decide)
    have d11 : (IsTwo k r) x11 w1 := hR 11 (by decide)
    clear hR hD
    subst d0
    subst d1
    subst d2
    subst d3
    obtain ⟨a4x, c4x, rfl, hO4⟩ := d4
    subst d5
    subst d6
    subst d7
    subst d8
    subst d9
    subst d10
    obtain ⟨g11, c11, rfl, hO11⟩ := d11
    refine wpAny_ready (rs := [12]) (by kernel_rfl) (by simp) (AllReady.cons rfl (fun KK hK => ?_) AllReady.nil)
    have G3 := F5.out.addO hb1 hO4
    simp only [List.cons_append, List.nil_append] at G3
    refine stepAppN 23 3 infoInt Tryz.underlying23 w.heap.size (.slice a4x (n - 2) c4x) (n - 2) (is.take (n - 2)) [k, r] 2 c11 ⟨g11, 0, none⟩ _ _ rfl rfl rfl (G3.r 1 rfl) rfl rfl (by decide) (fun j hj => ?_) (by omega) (by decide) G3.hlo ?_
    · match j, hj with
      | 0, _ => exact hO11.1
      | 1, _ => exact hO11.2
    intro g3 c3 w3 hown hgr hob
    rw [← HYQ.out, show n - 2 + 2 = n by omega] at hown
    rw [show n - 2 + 2 = n by omega]
    have G4 := Lib.hid (G3.wroteO 1 rfl hgr hown (fun g hg => by rcases hob with h | h; exact .inl (h.trans hg); exact .inr (by injection hg with hg; simp only at hg; omega)))
    simp only [List.set_cons_zero, List.set_cons_succ] at G4
    clear hown hgr hob G3
    refine hK _ _ ?_
    clear hK KK
    try simp only [putAll, Act.put, List.setIfInBounds_toArray, List.set_cons_zero, List.set_cons_succ]
    refine wpAny_ready (rs := [13]) (by kernel_rfl) (by simp) (AllReady.cons rfl (fun KK hK => ?_) AllReady.nil)
    go_simp
    refine hK _ _ ?_
    clear hK KK
    try simp only [putAll, Act.put, List.setIfInBounds_toArray, List.set_cons_zero, List.set_cons_succ]
    refine wpAny_done (by kernel_rfl) ?_ _
    have M1 := True.intro
    have M2 := True.intro
    skip
    go_wp2_with (first | (go_at_call 50; have hmk := M1; clear hmk M1; refine (HRX.out _ _ _ (G4.out.lw 0 rfl) (G4.out.li 0 (k := .i64) (xs := X) rfl HWX.out)).mono ?_; rintro e w6 ⟨rfl, hb⟩; have F6 := Lib.hid (G4.out.next hb); clear hb G4) | (go_at_call 50; have hmk := M2; clear hmk M2; refine (HRY.out _ _ _ (F6.out.lw 1 rfl) (F6.out.li 1 (k := .i64) (xs := Y) rfl HWY.out)).mono ?_; rintro e w7 ⟨rfl, hb⟩; have F7 := Lib.hid (F6.out.next hb); clear hb F6) | fail)
    exact bodyPost_ret (by rw [results_ttZ rfl]; go_simp) rfl ⟨rfl, F7.out.bel⟩
  · skip
    have hBi : ¬ (2 : Int) < (ys.length : Int) := by omega
    have hYq : Y = [k, r] := by rw [HYC.out, if_neg hB]
    have HYQ := Lib.hid hYq
    have hYl : Y.length = 2 := by rw [hYq]; rfl
    rw [hYl] at HRY
    have hlm : (#[Value.int .i64 k, Value.int .i64 r] : Array Value).toList = Y.map (Value.int .i64) := by rw [hYq]; rfl
    have hlit := World.ownsRow_lit (base := W4.heap.size) (e := 3) (size := 1) W4 #[Value.int .i64 k, Value.int .i64 r] 2 (Nat.le_refl _) (by unfold maxLen; omega) (by simp)
    rw [hlm] at hlit
    have F5 := Lib.hid (F4.out.addO ((Below.refl _ _).alloc (Nat.le_refl _) _) hlit)
    simp only [List.nil_append, List.cons_append] at F5
    clear hlit hlm hYq hYl hcr F4
    have M1 := True.intro
    have M2 := True.intro
    skip
    go_wp2_with (first | (go_at_call 50; have hmk := M1; clear hmk M1; refine (HRX.out _ _ _ (F5.out.lw 0 rfl) (F5.out.li 0 (k := .i64) (xs := X) rfl HWX.out)).mono ?_; rintro e w6 ⟨rfl, hb⟩; have F6 := Lib.hid (F5.out.next hb); clear hb F5) | (go_at_call 50; have hmk := M2; clear hmk M2; refine (HRY.out _ _ _ (F6.out.lw 1 rfl) (F6.out.li 1 (k := .i64) (xs := Y) rfl HWY.out)).mono ?_; rintro e w7 ⟨rfl, hb⟩; have F7 := Lib.hid (F6.out.next hb); clear hb F6) | fail)
    exact bodyPost_ret (by rw [results_ttZ rfl]; go_simp) rfl ⟨rfl, F7.out.bel⟩
end Go.Proofs.YtddhhfhammmaaaaGreat
