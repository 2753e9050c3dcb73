/- Walks: the reference's Axes. -/
import Derived.Test.YtinboddfmojodaaGreatRdR
set_option linter.unusedVariables false
set_option linter.unusedSimpArgs false
namespace Go.Proofs.YtinboddfmojodaaGreat
open Go.RowKit Go.Rt
theorem sm_wf (m : Bool) (xs ys axes : List Int) : (∀ v ∈ smX m xs ys axes, (Lit.int .i64 v).wf = true) ∧ (∀ v ∈ smY m xs ys axes, (Lit.int .i64 v).wf = true) := by
  unfold smX smY
  by_cases hz : smZ m xs ys axes = 0
  · rw [hz, zL_0, zL_0]
    unfold smZ at hz
    by_cases hc : ckZ xs ys axes = 0
    · rw [if_pos hc] at hz
      have hg := goodB_dims (restL_good (axes := axes) (tenB_iff.1 (ckZ_ok hc).1).1)
      refine ⟨wf_dims (fun x hx => by have := hg x hx; omega), fun v hv => ?_⟩
      obtain ⟨k, hk, rfl⟩ := List.mem_map.1 hv
      unfold rdZ at hz
      split at hz
      · next hall =>
        have := isW_iff.1 (List.all_eq_true.1 hall k hk)
        exact wf_i64_iff.2 ⟨by omega, by omega⟩
      · exact absurd hz (by decide)
    · rw [if_neg hc] at hz
      exact absurd hz hc
  · rw [zL_ne _ hz, zL_ne _ hz]
    exact ⟨by simp, by simp⟩
theorem mxK_wf {g : Nat → Nat} {hr : Nat → Int} {ys : List Int} (hy : ∀ n : Nat, isW (ys[n]?.getD 0) = true) (hh : ∀ n, 0 ≤ hr n ∧ hr n < 4097) (k : Nat) : ∀ n, isW (mxK g hr ys k n).1 = true ∧ 0 ≤ (mxK g hr ys k n).2 ∧ (mxK g hr ys k n).2 < 4097
  | 0 => ⟨by show isW 0 = true; decide, Int.le_refl 0, by show (0 : Int) < 4097; decide⟩
  | n + 1 => by
    have ih := mxK_wf (g := g) hy hh k n
    rw [mxK]
    split
    · unfold mxS
      split
      · exact ⟨hy n, hh n⟩
      · exact ih
    · exact ih
theorem mx_wf (xs ys : List Int) (x : Int) : (∀ v ∈ mxX xs ys x, (Lit.int .i64 v).wf = true) ∧ (∀ v ∈ mxY xs ys x, (Lit.int .i64 v).wf = true) ∧ (∀ v ∈ mxP xs ys x, (Lit.int .i64 v).wf = true) := by
  unfold mxX mxY mxP mxZ
  by_cases hc : ckZ xs ys [x] = 0
  · rw [hc, zL_0, zL_0, zL_0]
    obtain ⟨ht, hax⟩ := ckZ_ok hc
    have lT := tenB_iff.1 ht
    have hg := goodB_dims (restL_good (axes := [x]) lT.1)
    have hb : 0 ≤ x ∧ x < xs.length := by
      simp only [axB, Bool.and_true, Bool.and_eq_true, decide_eq_true_eq] at hax
      omega
    have hal : x.toNat < xs.length := by omega
    have hy : ∀ n : Nat, isW (ys[n]?.getD 0) = true := fun n => by
      by_cases hn : n < ys.length
      · rw [List.getElem?_eq_getElem hn]; exact lT.2.2 _ (List.getElem_mem hn)
      · rw [List.getElem?_eq_none (by omega)]; decide
    have hh : ∀ n, 0 ≤ hereI xs x.toNat n ∧ hereI xs x.toNat n < 4097 := fun n => by
      have h1 := here_bound (n := n) lT.1 hal
      have h2 := (goodB_dims lT.1).at hal
      rw [List.getElem?_eq_getElem hal, Option.getD_some] at h1
      omega
    refine ⟨wf_dims (fun x hx => by have := hg x hx; omega), fun v hv => ?_, fun v hv => ?_⟩
    · obtain ⟨k, hk, rfl⟩ := List.mem_map.1 hv
      have := isW_iff.1 (mxK_wf (g := mxG xs x.toNat) hy hh k ys.length).1
      exact wf_i64_iff.2 ⟨by show _ ≤ (mxK _ _ _ _ _).1; omega, by show (mxK _ _ _ _ _).1 ≤ _; omega⟩
    · obtain ⟨k, hk, rfl⟩ := List.mem_map.1 hv
      have := (mxK_wf (g := mxG xs x.toNat) hy hh k ys.length).2
      exact wf_i64_iff.2 ⟨by show _ ≤ (mxK _ _ _ _ _).2; omega, by show (mxK _ _ _ _ _).2 ≤ _; omega⟩
  · rw [zL_ne _ hc, zL_ne _ hc, zL_ne _ hc]
    exact ⟨by simp, by simp, by simp⟩


theorem lstC {α : Type} {n : Nat} {l : List α} (h : l.length = n + 1) : ∃ x t, l = x :: t ∧ t.length = n := by
  cases l with
  | nil => cases h
  | cons x t => exact ⟨x, t, rfl, Nat.succ.inj h⟩
theorem lst24 {α : Type} {l : List α} (h : l.length = 24) : ∃ x0 x1 x2 x3 x4 x5 x6 x7 x8 x9 x10 x11 x12 x13 x14 x15 x16 x17 x18 x19 x20 x21 x22 x23, l = [x0, x1, x2, x3, x4, x5, x6, x7, x8, x9, x10, x11, x12, x13, x14, x15, x16, x17, x18, x19, x20, x21, x22, x23] := by
  match l, h with
  | [x0, x1, x2, x3, x4, x5, x6, x7, x8, x9, x10, x11, x12, x13, x14, x15, x16, x17, x18, x19, x20, x21, x22, x23], _ => exact ⟨x0, x1, x2, x3, x4, x5, x6, x7, x8, x9, x10, x11, x12, x13, x14, x15, x16, x17, x18, x19, x20, x21, x22, x23, rfl⟩
theorem lst27 {α : Type} {l0 : List α} (h0 : l0.length = 27) : ∃ x0 x1 x2 x3 x4 x5 x6 x7 x8 x9 x10 x11 x12 x13 x14 x15 x16 x17 x18 x19 x20 x21 x22 x23 x24 x25 x26, l0 = [x0, x1, x2, x3, x4, x5, x6, x7, x8, x9, x10, x11, x12, x13, x14, x15, x16, x17, x18, x19, x20, x21, x22, x23, x24, x25, x26] := by
  obtain ⟨x0, l1, rfl, h1⟩ := lstC h0
  obtain ⟨x1, l2, rfl, h2⟩ := lstC h1
  obtain ⟨x2, l3, rfl, h3⟩ := lstC h2
  obtain ⟨x3, l4, rfl, h4⟩ := lstC h3
  obtain ⟨x4, l5, rfl, h5⟩ := lstC h4
  obtain ⟨x5, l6, rfl, h6⟩ := lstC h5
  obtain ⟨x6, l7, rfl, h7⟩ := lstC h6
  obtain ⟨x7, l8, rfl, h8⟩ := lstC h7
  obtain ⟨x8, l9, rfl, h9⟩ := lstC h8
  obtain ⟨x9, l10, rfl, h10⟩ := lstC h9
  obtain ⟨x10, l11, rfl, h11⟩ := lstC h10
  obtain ⟨x11, l12, rfl, h12⟩ := lstC h11
  obtain ⟨x12, l13, rfl, h13⟩ := lstC h12
  obtain ⟨x13, l14, rfl, h14⟩ := lstC h13
  obtain ⟨x14, l15, rfl, h15⟩ := lstC h14
  obtain ⟨x15, l16, rfl, h16⟩ := lstC h15
  obtain ⟨x16, l17, rfl, h17⟩ := lstC h16
  obtain ⟨x17, l18, rfl, h18⟩ := lstC h17
  obtain ⟨x18, l19, rfl, h19⟩ := lstC h18
  obtain ⟨x19, l20, rfl, h20⟩ := lstC h19
  obtain ⟨x20, l21, rfl, h21⟩ := lstC h20
  obtain ⟨x21, l22, rfl, h22⟩ := lstC h21
  obtain ⟨x22, l23, rfl, h23⟩ := lstC h22
  obtain ⟨x23, l24, rfl, h24⟩ := lstC h23
  obtain ⟨x24, l25, rfl, h25⟩ := lstC h24
  obtain ⟨x25, l26, rfl, h26⟩ := lstC h25
  obtain ⟨x26, l27, rfl, h27⟩ := lstC h26
  obtain rfl := List.length_eq_zero_iff.1 h27
  exact ⟨x0, x1, x2, x3, x4, x5, x6, x7, x8, x9, x10, x11, x12, x13, x14, x15, x16, x17, x18, x19, x20, x21, x22, x23, x24, x25, x26, rfl⟩
theorem lst29 {α : Type} {l0 : List α} (h0 : l0.length = 29) : ∃ x0 x1 x2 x3 x4 x5 x6 x7 x8 x9 x10 x11 x12 x13 x14 x15 x16 x17 x18 x19 x20 x21 x22 x23 x24 x25 x26 x27 x28, l0 = [x0, x1, x2, x3, x4, x5, x6, x7, x8, x9, x10, x11, x12, x13, x14, x15, x16, x17, x18, x19, x20, x21, x22, x23, x24, x25, x26, x27, x28] := by
  obtain ⟨x0, l1, rfl, h1⟩ := lstC h0
  obtain ⟨x1, l2, rfl, h2⟩ := lstC h1
  obtain ⟨x2, l3, rfl, h3⟩ := lstC h2
  obtain ⟨x3, l4, rfl, h4⟩ := lstC h3
  obtain ⟨x4, l5, rfl, h5⟩ := lstC h4
  obtain ⟨x5, l6, rfl, h6⟩ := lstC h5
  obtain ⟨x6, l7, rfl, h7⟩ := lstC h6
  obtain ⟨x7, l8, rfl, h8⟩ := lstC h7
  obtain ⟨x8, l9, rfl, h9⟩ := lstC h8
  obtain ⟨x9, l10, rfl, h10⟩ := lstC h9
  obtain ⟨x10, l11, rfl, h11⟩ := lstC h10
  obtain ⟨x11, l12, rfl, h12⟩ := lstC h11
  obtain ⟨x12, l13, rfl, h13⟩ := lstC h12
  obtain ⟨x13, l14, rfl, h14⟩ := lstC h13
  obtain ⟨x14, l15, rfl, h15⟩ := lstC h14
  obtain ⟨x15, l16, rfl, h16⟩ := lstC h15
  obtain ⟨x16, l17, rfl, h17⟩ := lstC h16
  obtain ⟨x17, l18, rfl, h18⟩ := lstC h17
  obtain ⟨x18, l19, rfl, h19⟩ := lstC h18
  obtain ⟨x19, l20, rfl, h20⟩ := lstC h19
  obtain ⟨x20, l21, rfl, h21⟩ := lstC h20
  obtain ⟨x21, l22, rfl, h22⟩ := lstC h21
  obtain ⟨x22, l23, rfl, h23⟩ := lstC h22
  obtain ⟨x23, l24, rfl, h24⟩ := lstC h23
  obtain ⟨x24, l25, rfl, h25⟩ := lstC h24
  obtain ⟨x25, l26, rfl, h26⟩ := lstC h25
  obtain ⟨x26, l27, rfl, h27⟩ := lstC h26
  obtain ⟨x27, l28, rfl, h28⟩ := lstC h27
  obtain ⟨x28, l29, rfl, h29⟩ := lstC h28
  obtain rfl := List.length_eq_zero_iff.1 h29
  exact ⟨x0, x1, x2, x3, x4, x5, x6, x7, x8, x9, x10, x11, x12, x13, x14, x15, x16, x17, x18, x19, x20, x21, x22, x23, x24, x25, x26, x27, x28, rfl⟩

attribute [local go_sem] Oper.semAt_some
set_option maxRecDepth 100000 in
set_option maxHeartbeats 2000000 in
theorem axes8_any (a : Option Addr) (c : Nat) (xs : List Int) (r : Int) (w : World) (h : Ints .i64 w w.heap.size a xs) :
    Calls Tryz.prog 6 #[.slice a xs.length c, .int .i64 r] w fun e w' => e = .returned (.bool (axB (-1) r xs)) ∧ Below w.heap.size w w' := by
  have F1 := Lib.hid (Fr.start (w := w) (I := [(.i64, a, xs)]) (by intro z hz; simp at hz; rcases hz with rfl; exact h))
  have hm := h.len
  clear h
  go_enter Tryz.func6, Tryz.ntmps6
  go_wp2
  go_loopw [5] (fun i wr => ∃ k : Nat, k ≤ xs.length ∧ i = .int .i64 k ∧ Hid (axB (-1) r xs = axB (lastJ xs k) r (xs.drop k) ∧ -1 ≤ lastJ xs k) ∧ Hid (Fr w.heap.size w wr [] [(.i64, a, xs)] [] [])) (fun i _ => xs.length - (intOf i).toNat)
  case atStart => exact ⟨0, Nat.zero_le _, rfl, Lib.hid ⟨rfl, by unfold lastJ; rw [if_pos rfl]; exact Int.le_refl _⟩, F1⟩
  case round =>
    obtain ⟨k, hk, rfl, HA, F2⟩ := hrel
    obtain ⟨wo, rfl⟩ : ∃ wo : World, wo = wr := ⟨_, rfl⟩
    clear F1
    by_cases hlt : k < xs.length
    · obtain ⟨hax, hL1⟩ := HA.out
      have hdr := drop_cons xs k hlt
      have hlj : lastJ xs (k + 1) = xs[k]?.getD 0 := by unfold lastJ; rw [if_neg (by omega)]; rfl
      have hl0 : k ≠ 0 → xs[k - 1]?.getD 0 = lastJ xs k := fun h => by unfold lastJ; rw [if_neg h]
      have hl1 : k = 0 → lastJ xs k = -1 := fun h => by unfold lastJ; rw [if_pos h]
      rw [hdr, axB] at hax
      have hgx : xs[k] = xs[k]?.getD 0 := by rw [List.getElem?_eq_getElem hlt]; rfl
      rw [hgx] at hax
      obtain ⟨b, off, rfl, _, _⟩ := (F2.out.l 0 rfl).cell k hlt
      obtain ⟨x, hx⟩ : ∃ x, xs[k]?.getD 0 = x := ⟨_, rfl⟩
      obtain ⟨L, hL⟩ : ∃ x, lastJ xs k = x := ⟨_, rfl⟩
      rw [hx] at hlj hax
      rw [hL] at hax hL1 hl0 hl1
      have HX := Lib.hid hx
      have HAX := Lib.hid hax
      have HLJ := Lib.hid hlj
      have HL0 := Lib.hid hl0
      have HL1 := Lib.hid hl1
      have hki : (k : Int) < (xs.length : Int) := by omega
      have hk0 : (0 : Int) ≤ (k : Int) := by omega
      clear hax hlj hdr hx hL hl0 hl1 hgx HA
      by_cases h1 : x < 0
      · skip
        have HF : Hid (axB (-1) r xs = false) := Lib.hid (by rw [HAX.out, decide_eq_false (by omega : ¬ L < x), Bool.false_and, Bool.false_and])
        clear HAX
        have DX := Lib.hid (decide_eq_true (by omega : x < 0))
        go_wp2
        refine wp_region_inv (w := wo) 29 (fun _ _ => True) (fun _ W => Fr w.heap.size w W [] [(.i64, (some ⟨b, off, none⟩), xs)] [] []) [] [(fun u _ => u = .slice (some ⟨b, off, none⟩) xs.length c), (fun u _ => u = .int .i64 (k : Int)), (fun u _ => u = .pointer (some ⟨b, off + k, none⟩)), (fun u _ => u = .int .i64 x), (fun u _ => u = .bool true), (fun u _ => u = .bool true), (fun u _ => u = undef), (fun u _ => u = undef), (fun u _ => u = undef), (fun u _ => u = undef), (fun u _ => u = undef), (fun u _ => u = undef), (fun u _ => u = .bool true), (fun u _ => u = .bool true), (fun u _ => u = undef), (fun u _ => u = undef), (fun u _ => u = undef), (fun u _ => u = undef), (fun u _ => u = undef), (fun u _ => u = undef), (fun u _ => u = undef), (fun u _ => u = undef), (fun u _ => u = undef), (fun u _ => u = undef), (fun u _ => u = undef), (fun u _ => u = undef), (fun u _ => u = undef), (fun u _ => u = undef), (fun u _ => u = .bool true)] [some 12, some 13, some 14, some 15, some 16, some 17, some 18, some 19, some 20, some 21, some 22, some 23, some 24, some 25, some 26, some 27, some 28, some 29, some 30, some 31, some 32, some 33, some 34, some 35, some 36, some 37, some 38, some 39, some 40] (by kernel_rfl) (by kernel_rfl) rfl (by kernel_rfl) (by kernel_rfl) (by decide) (by decide) (fun _ _ => trivial) trivial F2.out.drew (BorneAll.at (.cons (borne_eq _) (.cons (borne_eq _) (.cons (borne_eq _) (.cons (borne_eq _) (.cons (borne_eq _) (.cons (borne_eq _) (.cons (borne_eq _) (.cons (borne_eq _) (.cons (borne_eq _) (.cons (borne_eq _) (.cons (borne_eq _) (.cons (borne_eq _) (.cons (borne_eq _) (.cons (borne_eq _) (.cons (borne_eq _) (.cons (borne_eq _) (.cons (borne_eq _) (.cons (borne_eq _) (.cons (borne_eq _) (.cons (borne_eq _) (.cons (borne_eq _) (.cons (borne_eq _) (.cons (borne_eq _) (.cons (borne_eq _) (.cons (borne_eq _) (.cons (borne_eq _) (.cons (borne_eq _) (.cons (borne_eq _) (.cons (borne_eq _) .nil)))))))))))))))))))))))))))))) (fun vs b hvl hvb => ?_)
        obtain ⟨x0, x1, x2, x3, x4, x5, x6, x7, x8, x9, x10, x11, x12, x13, x14, x15, x16, x17, x18, x19, x20, x21, x22, x23, x24, x25, x26, x27, x28, rfl⟩ : ∃ x0 x1 x2 x3 x4 x5 x6 x7 x8 x9 x10 x11 x12 x13 x14 x15 x16 x17 x18 x19 x20 x21 x22 x23 x24 x25 x26 x27 x28, vs = [x0, x1, x2, x3, x4, x5, x6, x7, x8, x9, x10, x11, x12, x13, x14, x15, x16, x17, x18, x19, x20, x21, x22, x23, x24, x25, x26, x27, x28] := lst29 hvl
        clear hvl
        simp only [putAll, Act.put, List.setIfInBounds_toArray, List.set_cons_zero, List.set_cons_succ] at hvb
        subst hvb
        refine ⟨(.snoc (.snoc (.snoc (.snoc (.snoc (.snoc (.snoc (.snoc (.snoc (.snoc (.snoc (.snoc (.snoc (.snoc (.snoc (.snoc (.snoc (.snoc (.snoc (.snoc (.snoc (.snoc (.snoc (.snoc (.snoc (.snoc (.snoc (.snoc (.snoc .zero (InvOb.intro (d := (some 12)) (r := fun u _ => u = .slice (some ⟨b, off, none⟩) xs.length c) 0 0 rfl rfl rfl (by kernel_rfl) (by kernel_rfl) rfl ?io4negx0)) (InvOb.intro (d := (some 13)) (r := fun u _ => u = .int .i64 (k : Int)) 0 0 rfl rfl rfl (by kernel_rfl) (by kernel_rfl) rfl ?io4negx1)) (InvOb.intro (d := (some 14)) (r := fun u _ => u = .pointer (some ⟨b, off + k, none⟩)) 0 0 rfl rfl rfl (by kernel_rfl) (by kernel_rfl) rfl ?io4negx2)) (InvOb.intro (d := (some 15)) (r := fun u _ => u = .int .i64 x) 0 0 rfl rfl rfl (by kernel_rfl) (by kernel_rfl) rfl ?io4negx3)) (InvOb.intro (d := (some 16)) (r := fun u _ => u = .bool true) 0 0 rfl rfl rfl (by kernel_rfl) (by kernel_rfl) rfl ?io4negx4)) (InvOb.intro (d := (some 17)) (r := fun u _ => u = .bool true) 0 0 rfl rfl rfl (by kernel_rfl) (by kernel_rfl) rfl ?io4negx5)) (InvOb.intro (d := (some 18)) (r := fun u _ => u = undef) 0 0 rfl rfl rfl (by kernel_rfl) (by kernel_rfl) rfl ?io4negx6)) (InvOb.intro (d := (some 19)) (r := fun u _ => u = undef) 0 0 rfl rfl rfl (by kernel_rfl) (by kernel_rfl) rfl ?io4negx7)) (InvOb.intro (d := (some 20)) (r := fun u _ => u = undef) 0 0 rfl rfl rfl (by kernel_rfl) (by kernel_rfl) rfl ?io4negx8)) (InvOb.intro (d := (some 21)) (r := fun u _ => u = undef) 0 0 rfl rfl rfl (by kernel_rfl) (by kernel_rfl) rfl ?io4negx9)) (InvOb.intro (d := (some 22)) (r := fun u _ => u = undef) 0 0 rfl rfl rfl (by kernel_rfl) (by kernel_rfl) rfl ?io4negx10)) (InvOb.intro (d := (some 23)) (r := fun u _ => u = undef) 0 0 rfl rfl rfl (by kernel_rfl) (by kernel_rfl) rfl ?io4negx11)) (InvOb.intro (d := (some 24)) (r := fun u _ => u = .bool true) 0 0 rfl rfl rfl (by kernel_rfl) (by kernel_rfl) rfl ?io4negx12)) (InvOb.intro (d := (some 25)) (r := fun u _ => u = .bool true) 0 0 rfl rfl rfl (by kernel_rfl) (by kernel_rfl) rfl ?io4negx13)) (InvOb.intro (d := (some 26)) (r := fun u _ => u = undef) 0 0 rfl rfl rfl (by kernel_rfl) (by kernel_rfl) rfl ?io4negx14)) (InvOb.intro (d := (some 27)) (r := fun u _ => u = undef) 0 0 rfl rfl rfl (by kernel_rfl) (by kernel_rfl) rfl ?io4negx15)) (InvOb.intro (d := (some 28)) (r := fun u _ => u = undef) 0 0 rfl rfl rfl (by kernel_rfl) (by kernel_rfl) rfl ?io4negx16)) (InvOb.intro (d := (some 29)) (r := fun u _ => u = undef) 0 0 rfl rfl rfl (by kernel_rfl) (by kernel_rfl) rfl ?io4negx17)) (InvOb.intro (d := (some 30)) (r := fun u _ => u = undef) 0 0 rfl rfl rfl (by kernel_rfl) (by kernel_rfl) rfl ?io4negx18)) (InvOb.intro (d := (some 31)) (r := fun u _ => u = undef) 0 0 rfl rfl rfl (by kernel_rfl) (by kernel_rfl) rfl ?io4negx19)) (InvOb.intro (d := (some 32)) (r := fun u _ => u = undef) 0 0 rfl rfl rfl (by kernel_rfl) (by kernel_rfl) rfl ?io4negx20)) (InvOb.intro (d := (some 33)) (r := fun u _ => u = undef) 0 0 rfl rfl rfl (by kernel_rfl) (by kernel_rfl) rfl ?io4negx21)) (InvOb.intro (d := (some 34)) (r := fun u _ => u = undef) 0 0 rfl rfl rfl (by kernel_rfl) (by kernel_rfl) rfl ?io4negx22)) (InvOb.intro (d := (some 35)) (r := fun u _ => u = undef) 0 0 rfl rfl rfl (by kernel_rfl) (by kernel_rfl) rfl ?io4negx23)) (InvOb.intro (d := (some 36)) (r := fun u _ => u = undef) 0 0 rfl rfl rfl (by kernel_rfl) (by kernel_rfl) rfl ?io4negx24)) (InvOb.intro (d := (some 37)) (r := fun u _ => u = undef) 0 0 rfl rfl rfl (by kernel_rfl) (by kernel_rfl) rfl ?io4negx25)) (InvOb.intro (d := (some 38)) (r := fun u _ => u = undef) 0 0 rfl rfl rfl (by kernel_rfl) (by kernel_rfl) rfl ?io4negx26)) (InvOb.intro (d := (some 39)) (r := fun u _ => u = undef) 0 0 rfl rfl rfl (by kernel_rfl) (by kernel_rfl) rfl ?io4negx27)) (InvOb.intro (d := (some 40)) (r := fun u _ => u = .bool true) 0 0 rfl rfl rfl (by kernel_rfl) (by kernel_rfl) rfl ?io4negx28)), ?iend4neg⟩
        case io4negx0 =>
          intro k1 w1 hk0 hk1 hb1 hS hd KK hK
          clear hd
          simp only [Act.put, List.setIfInBounds_toArray, List.set_cons_zero, List.set_cons_succ] at hK
          go_simp
          first | exact hK.out _ _ trivial hS rfl | (have hk := hK.out _ _ trivial hS rfl; revert hk; go_simp)
        case io4negx1 =>
          intro k1 w1 hk0 hk1 hb1 hS hd KK hK
          clear hd
          simp only [Act.put, List.setIfInBounds_toArray, List.set_cons_zero, List.set_cons_succ] at hK
          go_simp
          first | exact hK.out _ _ trivial hS rfl | (have hk := hK.out _ _ trivial hS rfl; revert hk; go_simp)
        case io4negx2 =>
          intro k1 w1 hk0 hk1 hb1 hS hd KK hK
          have d0 : x0 = .slice (some ⟨b, off, none⟩) xs.length c := hd 0 (by kernel_rfl)
          have d1 : x1 = .int .i64 (k : Int) := hd 1 (by kernel_rfl)
          clear hd
          subst d0
          subst d1
          simp only [Act.put, List.setIfInBounds_toArray, List.set_cons_zero, List.set_cons_succ] at hK
          go_simp
          first | exact hK.out _ _ trivial hS rfl | (have hk := hK.out _ _ trivial hS rfl; revert hk; go_simp)
        case io4negx3 =>
          intro k1 w1 hk0 hk1 hb1 hS hd KK hK
          have d2 : x2 = .pointer (some ⟨b, off + k, none⟩) := hd 2 (by kernel_rfl)
          clear hd
          subst d2
          obtain ⟨b9, o9, he, _, hcx⟩ := (hS.l 0 rfl).cell k hlt
          cases he
          rw [HX.out] at hcx
          simp only [Act.put, List.setIfInBounds_toArray, List.set_cons_zero, List.set_cons_succ] at hK
          go_simp
          first | exact hK.out _ _ trivial hS rfl | (have hk := hK.out _ _ trivial hS rfl; revert hk; go_simp)
        case io4negx4 =>
          intro k1 w1 hk0 hk1 hb1 hS hd KK hK
          have d3 : x3 = .int .i64 x := hd 3 (by kernel_rfl)
          clear hd
          subst d3
          have dx := DX.out
          simp only [Act.put, List.setIfInBounds_toArray, List.set_cons_zero, List.set_cons_succ] at hK
          go_simp
          first | exact hK.out _ _ trivial hS rfl | (have hk := hK.out _ _ trivial hS rfl; revert hk; go_simp)
        case io4negx5 =>
          intro k1 w1 hk0 hk1 hb1 hS hd KK hK
          have d4 : x4 = .bool true := hd 4 (by kernel_rfl)
          clear hd
          subst d4
          simp only [Act.put, List.setIfInBounds_toArray, List.set_cons_zero, List.set_cons_succ] at hK
          go_simp
          first | exact hK.out _ _ trivial hS rfl | (have hk := hK.out _ _ trivial hS rfl; revert hk; go_simp)
        case io4negx6 =>
          intro k1 w1 hk0 hk1 hb1 hS hd KK hK
          have d5 : x5 = .bool true := hd 5 (by kernel_rfl)
          clear hd
          subst d5
          simp only [Act.put, List.setIfInBounds_toArray, List.set_cons_zero, List.set_cons_succ] at hK
          go_simp
          first | exact hK.out _ _ trivial hS rfl | (have hk := hK.out _ _ trivial hS rfl; revert hk; go_simp)
        case io4negx7 =>
          intro k1 w1 hk0 hk1 hb1 hS hd KK hK
          have d5 : x5 = .bool true := hd 5 (by kernel_rfl)
          clear hd
          subst d5
          simp only [Act.put, List.setIfInBounds_toArray, List.set_cons_zero, List.set_cons_succ] at hK
          go_simp
          first | exact hK.out _ _ trivial hS rfl | (have hk := hK.out _ _ trivial hS rfl; revert hk; go_simp)
        case io4negx8 =>
          intro k1 w1 hk0 hk1 hb1 hS hd KK hK
          have d5 : x5 = .bool true := hd 5 (by kernel_rfl)
          have d6 : x6 = undef := hd 6 (by kernel_rfl)
          have d7 : x7 = undef := hd 7 (by kernel_rfl)
          clear hd
          subst d5
          subst d6
          subst d7
          simp only [Act.put, List.setIfInBounds_toArray, List.set_cons_zero, List.set_cons_succ] at hK
          go_simp
          first | exact hK.out _ _ trivial hS rfl | (have hk := hK.out _ _ trivial hS rfl; revert hk; go_simp)
        case io4negx9 =>
          intro k1 w1 hk0 hk1 hb1 hS hd KK hK
          have d5 : x5 = .bool true := hd 5 (by kernel_rfl)
          have d8 : x8 = undef := hd 8 (by kernel_rfl)
          clear hd
          subst d5
          subst d8
          simp only [Act.put, List.setIfInBounds_toArray, List.set_cons_zero, List.set_cons_succ] at hK
          go_simp
          first | exact hK.out _ _ trivial hS rfl | (have hk := hK.out _ _ trivial hS rfl; revert hk; go_simp)
        case io4negx10 =>
          intro k1 w1 hk0 hk1 hb1 hS hd KK hK
          have d5 : x5 = .bool true := hd 5 (by kernel_rfl)
          clear hd
          subst d5
          simp only [Act.put, List.setIfInBounds_toArray, List.set_cons_zero, List.set_cons_succ] at hK
          go_simp
          first | exact hK.out _ _ trivial hS rfl | (have hk := hK.out _ _ trivial hS rfl; revert hk; go_simp)
        case io4negx11 =>
          intro k1 w1 hk0 hk1 hb1 hS hd KK hK
          have d5 : x5 = .bool true := hd 5 (by kernel_rfl)
          have d9 : x9 = undef := hd 9 (by kernel_rfl)
          have d10 : x10 = undef := hd 10 (by kernel_rfl)
          clear hd
          subst d5
          subst d9
          subst d10
          simp only [Act.put, List.setIfInBounds_toArray, List.set_cons_zero, List.set_cons_succ] at hK
          go_simp
          first | exact hK.out _ _ trivial hS rfl | (have hk := hK.out _ _ trivial hS rfl; revert hk; go_simp)
        case io4negx12 =>
          intro k1 w1 hk0 hk1 hb1 hS hd KK hK
          have d5 : x5 = .bool true := hd 5 (by kernel_rfl)
          have d11 : x11 = undef := hd 11 (by kernel_rfl)
          clear hd
          subst d5
          subst d11
          simp only [Act.put, List.setIfInBounds_toArray, List.set_cons_zero, List.set_cons_succ] at hK
          go_simp
          first | exact hK.out _ _ trivial hS rfl | (have hk := hK.out _ _ trivial hS rfl; revert hk; go_simp)
        case io4negx13 =>
          intro k1 w1 hk0 hk1 hb1 hS hd KK hK
          have d5 : x5 = .bool true := hd 5 (by kernel_rfl)
          have d12 : x12 = .bool true := hd 12 (by kernel_rfl)
          clear hd
          subst d5
          subst d12
          simp only [Act.put, List.setIfInBounds_toArray, List.set_cons_zero, List.set_cons_succ] at hK
          go_simp
          first | exact hK.out _ _ trivial hS rfl | (have hk := hK.out _ _ trivial hS rfl; revert hk; go_simp)
        case io4negx14 =>
          intro k1 w1 hk0 hk1 hb1 hS hd KK hK
          have d13 : x13 = .bool true := hd 13 (by kernel_rfl)
          clear hd
          subst d13
          simp only [Act.put, List.setIfInBounds_toArray, List.set_cons_zero, List.set_cons_succ] at hK
          go_simp
          first | exact hK.out _ _ trivial hS rfl | (have hk := hK.out _ _ trivial hS rfl; revert hk; go_simp)
        case io4negx15 =>
          intro k1 w1 hk0 hk1 hb1 hS hd KK hK
          have d13 : x13 = .bool true := hd 13 (by kernel_rfl)
          have d14 : x14 = undef := hd 14 (by kernel_rfl)
          clear hd
          subst d13
          subst d14
          simp only [Act.put, List.setIfInBounds_toArray, List.set_cons_zero, List.set_cons_succ] at hK
          go_simp
          first | exact hK.out _ _ trivial hS rfl | (have hk := hK.out _ _ trivial hS rfl; revert hk; go_simp)
        case io4negx16 =>
          intro k1 w1 hk0 hk1 hb1 hS hd KK hK
          have d13 : x13 = .bool true := hd 13 (by kernel_rfl)
          have d15 : x15 = undef := hd 15 (by kernel_rfl)
          clear hd
          subst d13
          subst d15
          simp only [Act.put, List.setIfInBounds_toArray, List.set_cons_zero, List.set_cons_succ] at hK
          go_simp
          first | exact hK.out _ _ trivial hS rfl | (have hk := hK.out _ _ trivial hS rfl; revert hk; go_simp)
        case io4negx17 =>
          intro k1 w1 hk0 hk1 hb1 hS hd KK hK
          have d16 : x16 = undef := hd 16 (by kernel_rfl)
          clear hd
          subst d16
          simp only [Act.put, List.setIfInBounds_toArray, List.set_cons_zero, List.set_cons_succ] at hK
          go_simp
          first | exact hK.out _ _ trivial hS rfl | (have hk := hK.out _ _ trivial hS rfl; revert hk; go_simp)
        case io4negx18 =>
          intro k1 w1 hk0 hk1 hb1 hS hd KK hK
          have d16 : x16 = undef := hd 16 (by kernel_rfl)
          clear hd
          subst d16
          simp only [Act.put, List.setIfInBounds_toArray, List.set_cons_zero, List.set_cons_succ] at hK
          go_simp
          first | exact hK.out _ _ trivial hS rfl | (have hk := hK.out _ _ trivial hS rfl; revert hk; go_simp)
        case io4negx19 =>
          intro k1 w1 hk0 hk1 hb1 hS hd KK hK
          have d16 : x16 = undef := hd 16 (by kernel_rfl)
          have d17 : x17 = undef := hd 17 (by kernel_rfl)
          have d18 : x18 = undef := hd 18 (by kernel_rfl)
          clear hd
          subst d16
          subst d17
          subst d18
          simp only [Act.put, List.setIfInBounds_toArray, List.set_cons_zero, List.set_cons_succ] at hK
          go_simp
          first | exact hK.out _ _ trivial hS rfl | (have hk := hK.out _ _ trivial hS rfl; revert hk; go_simp)
        case io4negx20 =>
          intro k1 w1 hk0 hk1 hb1 hS hd KK hK
          have d16 : x16 = undef := hd 16 (by kernel_rfl)
          have d19 : x19 = undef := hd 19 (by kernel_rfl)
          clear hd
          subst d16
          subst d19
          simp only [Act.put, List.setIfInBounds_toArray, List.set_cons_zero, List.set_cons_succ] at hK
          go_simp
          first | exact hK.out _ _ trivial hS rfl | (have hk := hK.out _ _ trivial hS rfl; revert hk; go_simp)
        case io4negx21 =>
          intro k1 w1 hk0 hk1 hb1 hS hd KK hK
          have d16 : x16 = undef := hd 16 (by kernel_rfl)
          clear hd
          subst d16
          simp only [Act.put, List.setIfInBounds_toArray, List.set_cons_zero, List.set_cons_succ] at hK
          go_simp
          first | exact hK.out _ _ trivial hS rfl | (have hk := hK.out _ _ trivial hS rfl; revert hk; go_simp)
        case io4negx22 =>
          intro k1 w1 hk0 hk1 hb1 hS hd KK hK
          have d16 : x16 = undef := hd 16 (by kernel_rfl)
          clear hd
          subst d16
          simp only [Act.put, List.setIfInBounds_toArray, List.set_cons_zero, List.set_cons_succ] at hK
          go_simp
          first | exact hK.out _ _ trivial hS rfl | (have hk := hK.out _ _ trivial hS rfl; revert hk; go_simp)
        case io4negx23 =>
          intro k1 w1 hk0 hk1 hb1 hS hd KK hK
          have d16 : x16 = undef := hd 16 (by kernel_rfl)
          have d22 : x22 = undef := hd 22 (by kernel_rfl)
          clear hd
          subst d16
          subst d22
          simp only [Act.put, List.setIfInBounds_toArray, List.set_cons_zero, List.set_cons_succ] at hK
          go_simp
          first | exact hK.out _ _ trivial hS rfl | (have hk := hK.out _ _ trivial hS rfl; revert hk; go_simp)
        case io4negx24 =>
          intro k1 w1 hk0 hk1 hb1 hS hd KK hK
          have d16 : x16 = undef := hd 16 (by kernel_rfl)
          have d21 : x21 = undef := hd 21 (by kernel_rfl)
          have d23 : x23 = undef := hd 23 (by kernel_rfl)
          clear hd
          subst d16
          subst d21
          subst d23
          simp only [Act.put, List.setIfInBounds_toArray, List.set_cons_zero, List.set_cons_succ] at hK
          go_simp
          first | exact hK.out _ _ trivial hS rfl | (have hk := hK.out _ _ trivial hS rfl; revert hk; go_simp)
        case io4negx25 =>
          intro k1 w1 hk0 hk1 hb1 hS hd KK hK
          have d16 : x16 = undef := hd 16 (by kernel_rfl)
          have d24 : x24 = undef := hd 24 (by kernel_rfl)
          clear hd
          subst d16
          subst d24
          simp only [Act.put, List.setIfInBounds_toArray, List.set_cons_zero, List.set_cons_succ] at hK
          go_simp
          first | exact hK.out _ _ trivial hS rfl | (have hk := hK.out _ _ trivial hS rfl; revert hk; go_simp)
        case io4negx26 =>
          intro k1 w1 hk0 hk1 hb1 hS hd KK hK
          have d16 : x16 = undef := hd 16 (by kernel_rfl)
          have d20 : x20 = undef := hd 20 (by kernel_rfl)
          have d25 : x25 = undef := hd 25 (by kernel_rfl)
          clear hd
          subst d16
          subst d20
          subst d25
          simp only [Act.put, List.setIfInBounds_toArray, List.set_cons_zero, List.set_cons_succ] at hK
          go_simp
          first | exact hK.out _ _ trivial hS rfl | (have hk := hK.out _ _ trivial hS rfl; revert hk; go_simp)
        case io4negx27 =>
          intro k1 w1 hk0 hk1 hb1 hS hd KK hK
          have d13 : x13 = .bool true := hd 13 (by kernel_rfl)
          have d16 : x16 = undef := hd 16 (by kernel_rfl)
          have d26 : x26 = undef := hd 26 (by kernel_rfl)
          clear hd
          subst d13
          subst d16
          subst d26
          simp only [Act.put, List.setIfInBounds_toArray, List.set_cons_zero, List.set_cons_succ] at hK
          go_simp
          first | exact hK.out _ _ trivial hS rfl | (have hk := hK.out _ _ trivial hS rfl; revert hk; go_simp)
        case io4negx28 =>
          intro k1 w1 hk0 hk1 hb1 hS hd KK hK
          have d13 : x13 = .bool true := hd 13 (by kernel_rfl)
          have d27 : x27 = undef := hd 27 (by kernel_rfl)
          clear hd
          subst d13
          subst d27
          simp only [Act.put, List.setIfInBounds_toArray, List.set_cons_zero, List.set_cons_succ] at hK
          go_simp
          first | exact hK.out _ _ trivial hS rfl | (have hk := hK.out _ _ trivial hS rfl; revert hk; go_simp)
        case iend4neg =>
          intro w1 hb1 hS hR
          have d0 : x0 = .slice (some ⟨b, off, none⟩) xs.length c := hR 0 (by decide)
          have d1 : x1 = .int .i64 (k : Int) := hR 1 (by decide)
          have d2 : x2 = .pointer (some ⟨b, off + k, none⟩) := hR 2 (by decide)
          have d3 : x3 = .int .i64 x := hR 3 (by decide)
          have d4 : x4 = .bool true := hR 4 (by decide)
          have d5 : x5 = .bool true := hR 5 (by decide)
          have d6 : x6 = undef := hR 6 (by decide)
          have d7 : x7 = undef := hR 7 (by decide)
          have d8 : x8 = undef := hR 8 (by decide)
          have d9 : x9 = undef := hR 9 (by decide)
          have d10 : x10 = undef := hR 10 (by decide)
          have d11 : x11 = undef := hR 11 (by decide)
          have d12 : x12 = .bool true := hR 12 (by decide)
          have d13 : x13 = .bool true := hR 13 (by decide)
          have d14 : x14 = undef := hR 14 (by decide)
          have d15 : x15 = undef := hR 15 (by decide)
          have d16 : x16 = undef := hR 16 (by decide)
          have d17 : x17 = undef := hR 17 (by decide)
          have d18 : x18 = undef := hR 18 (by decide)
          have d19 : x19 = undef := hR 19 (by decide)
          have d20 : x20 = undef := hR 20 (by decide)
          have d21 : x21 = undef := hR 21 (by decide)
          have d22 : x22 = undef := hR 22 (by decide)
          have d23 : x23 = undef := hR 23 (by decide)
          have d24 : x24 = undef := hR 24 (by decide)
          have d25 : x25 = undef := hR 25 (by decide)
          have d26 : x26 = undef := hR 26 (by decide)
          have d27 : x27 = undef := hR 27 (by decide)
          have d28 : x28 = .bool true := hR 28 (by decide)
          clear hR
          subst d0
          subst d1
          subst d2
          subst d3
          subst d4
          subst d5
          subst d6
          subst d7
          subst d8
          subst d9
          subst d10
          subst d11
          subst d12
          subst d13
          subst d14
          subst d15
          subst d16
          subst d17
          subst d18
          subst d19
          subst d20
          subst d21
          subst d22
          subst d23
          subst d24
          subst d25
          subst d26
          subst d27
          subst d28
          try simp only [putAll, Act.put, List.setIfInBounds_toArray, List.set_cons_zero, List.set_cons_succ]
          have F3 := Lib.hid hS
          clear hS hb1 F2
          go_wp2
          go_ret
          exact ⟨by rw [HF.out]; rfl, F3.out.bel⟩
      · skip
        by_cases h2 : r ≤ x
        · skip
          have HF : Hid (axB (-1) r xs = false) := Lib.hid (by rw [HAX.out, decide_eq_false (by omega : ¬ x < r), Bool.and_false, Bool.false_and])
          clear HAX
          have DX := Lib.hid (decide_eq_false (by omega : ¬ x < 0))
          have DR := Lib.hid (decide_eq_true (by omega : r ≤ x))
          go_wp2
          refine wp_region_inv (w := wo) 29 (fun _ _ => True) (fun _ W => Fr w.heap.size w W [] [(.i64, (some ⟨b, off, none⟩), xs)] [] []) [] [(fun u _ => u = .slice (some ⟨b, off, none⟩) xs.length c), (fun u _ => u = .int .i64 (k : Int)), (fun u _ => u = .pointer (some ⟨b, off + k, none⟩)), (fun u _ => u = .int .i64 x), (fun u _ => u = .bool false), (fun u _ => u = .bool false), (fun u _ => u = .slice (some ⟨b, off, none⟩) xs.length c), (fun u _ => u = .int .i64 (k : Int)), (fun u _ => u = .pointer (some ⟨b, off + k, none⟩)), (fun u _ => u = .int .i64 x), (fun u _ => u = .int .i64 r), (fun u _ => u = .bool true), (fun u _ => u = .bool true), (fun u _ => u = .bool true), (fun u _ => u = undef), (fun u _ => u = undef), (fun u _ => u = undef), (fun u _ => u = undef), (fun u _ => u = undef), (fun u _ => u = undef), (fun u _ => u = undef), (fun u _ => u = undef), (fun u _ => u = undef), (fun u _ => u = undef), (fun u _ => u = undef), (fun u _ => u = undef), (fun u _ => u = undef), (fun u _ => u = undef), (fun u _ => u = .bool true)] [some 12, some 13, some 14, some 15, some 16, some 17, some 18, some 19, some 20, some 21, some 22, some 23, some 24, some 25, some 26, some 27, some 28, some 29, some 30, some 31, some 32, some 33, some 34, some 35, some 36, some 37, some 38, some 39, some 40] (by kernel_rfl) (by kernel_rfl) rfl (by kernel_rfl) (by kernel_rfl) (by decide) (by decide) (fun _ _ => trivial) trivial F2.out.drew (BorneAll.at (.cons (borne_eq _) (.cons (borne_eq _) (.cons (borne_eq _) (.cons (borne_eq _) (.cons (borne_eq _) (.cons (borne_eq _) (.cons (borne_eq _) (.cons (borne_eq _) (.cons (borne_eq _) (.cons (borne_eq _) (.cons (borne_eq _) (.cons (borne_eq _) (.cons (borne_eq _) (.cons (borne_eq _) (.cons (borne_eq _) (.cons (borne_eq _) (.cons (borne_eq _) (.cons (borne_eq _) (.cons (borne_eq _) (.cons (borne_eq _) (.cons (borne_eq _) (.cons (borne_eq _) (.cons (borne_eq _) (.cons (borne_eq _) (.cons (borne_eq _) (.cons (borne_eq _) (.cons (borne_eq _) (.cons (borne_eq _) (.cons (borne_eq _) .nil)))))))))))))))))))))))))))))) (fun vs b hvl hvb => ?_)
          obtain ⟨x0, x1, x2, x3, x4, x5, x6, x7, x8, x9, x10, x11, x12, x13, x14, x15, x16, x17, x18, x19, x20, x21, x22, x23, x24, x25, x26, x27, x28, rfl⟩ : ∃ x0 x1 x2 x3 x4 x5 x6 x7 x8 x9 x10 x11 x12 x13 x14 x15 x16 x17 x18 x19 x20 x21 x22 x23 x24 x25 x26 x27 x28, vs = [x0, x1, x2, x3, x4, x5, x6, x7, x8, x9, x10, x11, x12, x13, x14, x15, x16, x17, x18, x19, x20, x21, x22, x23, x24, x25, x26, x27, x28] := lst29 hvl
          clear hvl
          simp only [putAll, Act.put, List.setIfInBounds_toArray, List.set_cons_zero, List.set_cons_succ] at hvb
          subst hvb
          refine ⟨(.snoc (.snoc (.snoc (.snoc (.snoc (.snoc (.snoc (.snoc (.snoc (.snoc (.snoc (.snoc (.snoc (.snoc (.snoc (.snoc (.snoc (.snoc (.snoc (.snoc (.snoc (.snoc (.snoc (.snoc (.snoc (.snoc (.snoc (.snoc (.snoc .zero (InvOb.intro (d := (some 12)) (r := fun u _ => u = .slice (some ⟨b, off, none⟩) xs.length c) 0 0 rfl rfl rfl (by kernel_rfl) (by kernel_rfl) rfl ?io4bigx0)) (InvOb.intro (d := (some 13)) (r := fun u _ => u = .int .i64 (k : Int)) 0 0 rfl rfl rfl (by kernel_rfl) (by kernel_rfl) rfl ?io4bigx1)) (InvOb.intro (d := (some 14)) (r := fun u _ => u = .pointer (some ⟨b, off + k, none⟩)) 0 0 rfl rfl rfl (by kernel_rfl) (by kernel_rfl) rfl ?io4bigx2)) (InvOb.intro (d := (some 15)) (r := fun u _ => u = .int .i64 x) 0 0 rfl rfl rfl (by kernel_rfl) (by kernel_rfl) rfl ?io4bigx3)) (InvOb.intro (d := (some 16)) (r := fun u _ => u = .bool false) 0 0 rfl rfl rfl (by kernel_rfl) (by kernel_rfl) rfl ?io4bigx4)) (InvOb.intro (d := (some 17)) (r := fun u _ => u = .bool false) 0 0 rfl rfl rfl (by kernel_rfl) (by kernel_rfl) rfl ?io4bigx5)) (InvOb.intro (d := (some 18)) (r := fun u _ => u = .slice (some ⟨b, off, none⟩) xs.length c) 0 0 rfl rfl rfl (by kernel_rfl) (by kernel_rfl) rfl ?io4bigx6)) (InvOb.intro (d := (some 19)) (r := fun u _ => u = .int .i64 (k : Int)) 0 0 rfl rfl rfl (by kernel_rfl) (by kernel_rfl) rfl ?io4bigx7)) (InvOb.intro (d := (some 20)) (r := fun u _ => u = .pointer (some ⟨b, off + k, none⟩)) 0 0 rfl rfl rfl (by kernel_rfl) (by kernel_rfl) rfl ?io4bigx8)) (InvOb.intro (d := (some 21)) (r := fun u _ => u = .int .i64 x) 0 0 rfl rfl rfl (by kernel_rfl) (by kernel_rfl) rfl ?io4bigx9)) (InvOb.intro (d := (some 22)) (r := fun u _ => u = .int .i64 r) 0 0 rfl rfl rfl (by kernel_rfl) (by kernel_rfl) rfl ?io4bigx10)) (InvOb.intro (d := (some 23)) (r := fun u _ => u = .bool true) 0 0 rfl rfl rfl (by kernel_rfl) (by kernel_rfl) rfl ?io4bigx11)) (InvOb.intro (d := (some 24)) (r := fun u _ => u = .bool true) 0 0 rfl rfl rfl (by kernel_rfl) (by kernel_rfl) rfl ?io4bigx12)) (InvOb.intro (d := (some 25)) (r := fun u _ => u = .bool true) 0 0 rfl rfl rfl (by kernel_rfl) (by kernel_rfl) rfl ?io4bigx13)) (InvOb.intro (d := (some 26)) (r := fun u _ => u = undef) 0 0 rfl rfl rfl (by kernel_rfl) (by kernel_rfl) rfl ?io4bigx14)) (InvOb.intro (d := (some 27)) (r := fun u _ => u = undef) 0 0 rfl rfl rfl (by kernel_rfl) (by kernel_rfl) rfl ?io4bigx15)) (InvOb.intro (d := (some 28)) (r := fun u _ => u = undef) 0 0 rfl rfl rfl (by kernel_rfl) (by kernel_rfl) rfl ?io4bigx16)) (InvOb.intro (d := (some 29)) (r := fun u _ => u = undef) 0 0 rfl rfl rfl (by kernel_rfl) (by kernel_rfl) rfl ?io4bigx17)) (InvOb.intro (d := (some 30)) (r := fun u _ => u = undef) 0 0 rfl rfl rfl (by kernel_rfl) (by kernel_rfl) rfl ?io4bigx18)) (InvOb.intro (d := (some 31)) (r := fun u _ => u = undef) 0 0 rfl rfl rfl (by kernel_rfl) (by kernel_rfl) rfl ?io4bigx19)) (InvOb.intro (d := (some 32)) (r := fun u _ => u = undef) 0 0 rfl rfl rfl (by kernel_rfl) (by kernel_rfl) rfl ?io4bigx20)) (InvOb.intro (d := (some 33)) (r := fun u _ => u = undef) 0 0 rfl rfl rfl (by kernel_rfl) (by kernel_rfl) rfl ?io4bigx21)) (InvOb.intro (d := (some 34)) (r := fun u _ => u = undef) 0 0 rfl rfl rfl (by kernel_rfl) (by kernel_rfl) rfl ?io4bigx22)) (InvOb.intro (d := (some 35)) (r := fun u _ => u = undef) 0 0 rfl rfl rfl (by kernel_rfl) (by kernel_rfl) rfl ?io4bigx23)) (InvOb.intro (d := (some 36)) (r := fun u _ => u = undef) 0 0 rfl rfl rfl (by kernel_rfl) (by kernel_rfl) rfl ?io4bigx24)) (InvOb.intro (d := (some 37)) (r := fun u _ => u = undef) 0 0 rfl rfl rfl (by kernel_rfl) (by kernel_rfl) rfl ?io4bigx25)) (InvOb.intro (d := (some 38)) (r := fun u _ => u = undef) 0 0 rfl rfl rfl (by kernel_rfl) (by kernel_rfl) rfl ?io4bigx26)) (InvOb.intro (d := (some 39)) (r := fun u _ => u = undef) 0 0 rfl rfl rfl (by kernel_rfl) (by kernel_rfl) rfl ?io4bigx27)) (InvOb.intro (d := (some 40)) (r := fun u _ => u = .bool true) 0 0 rfl rfl rfl (by kernel_rfl) (by kernel_rfl) rfl ?io4bigx28)), ?iend4big⟩
          case io4bigx0 =>
            intro k1 w1 hk0 hk1 hb1 hS hd KK hK
            clear hd
            simp only [Act.put, List.setIfInBounds_toArray, List.set_cons_zero, List.set_cons_succ] at hK
            go_simp
            first | exact hK.out _ _ trivial hS rfl | (have hk := hK.out _ _ trivial hS rfl; revert hk; go_simp)
          case io4bigx1 =>
            intro k1 w1 hk0 hk1 hb1 hS hd KK hK
            clear hd
            simp only [Act.put, List.setIfInBounds_toArray, List.set_cons_zero, List.set_cons_succ] at hK
            go_simp
            first | exact hK.out _ _ trivial hS rfl | (have hk := hK.out _ _ trivial hS rfl; revert hk; go_simp)
          case io4bigx2 =>
            intro k1 w1 hk0 hk1 hb1 hS hd KK hK
            have d0 : x0 = .slice (some ⟨b, off, none⟩) xs.length c := hd 0 (by kernel_rfl)
            have d1 : x1 = .int .i64 (k : Int) := hd 1 (by kernel_rfl)
            clear hd
            subst d0
            subst d1
            simp only [Act.put, List.setIfInBounds_toArray, List.set_cons_zero, List.set_cons_succ] at hK
            go_simp
            first | exact hK.out _ _ trivial hS rfl | (have hk := hK.out _ _ trivial hS rfl; revert hk; go_simp)
          case io4bigx3 =>
            intro k1 w1 hk0 hk1 hb1 hS hd KK hK
            have d2 : x2 = .pointer (some ⟨b, off + k, none⟩) := hd 2 (by kernel_rfl)
            clear hd
            subst d2
            obtain ⟨b9, o9, he, _, hcx⟩ := (hS.l 0 rfl).cell k hlt
            cases he
            rw [HX.out] at hcx
            simp only [Act.put, List.setIfInBounds_toArray, List.set_cons_zero, List.set_cons_succ] at hK
            go_simp
            first | exact hK.out _ _ trivial hS rfl | (have hk := hK.out _ _ trivial hS rfl; revert hk; go_simp)
          case io4bigx4 =>
            intro k1 w1 hk0 hk1 hb1 hS hd KK hK
            have d3 : x3 = .int .i64 x := hd 3 (by kernel_rfl)
            clear hd
            subst d3
            have dx := DX.out
            simp only [Act.put, List.setIfInBounds_toArray, List.set_cons_zero, List.set_cons_succ] at hK
            go_simp
            first | exact hK.out _ _ trivial hS rfl | (have hk := hK.out _ _ trivial hS rfl; revert hk; go_simp)
          case io4bigx5 =>
            intro k1 w1 hk0 hk1 hb1 hS hd KK hK
            have d4 : x4 = .bool false := hd 4 (by kernel_rfl)
            clear hd
            subst d4
            simp only [Act.put, List.setIfInBounds_toArray, List.set_cons_zero, List.set_cons_succ] at hK
            go_simp
            first | exact hK.out _ _ trivial hS rfl | (have hk := hK.out _ _ trivial hS rfl; revert hk; go_simp)
          case io4bigx6 =>
            intro k1 w1 hk0 hk1 hb1 hS hd KK hK
            have d5 : x5 = .bool false := hd 5 (by kernel_rfl)
            clear hd
            subst d5
            simp only [Act.put, List.setIfInBounds_toArray, List.set_cons_zero, List.set_cons_succ] at hK
            go_simp
            first | exact hK.out _ _ trivial hS rfl | (have hk := hK.out _ _ trivial hS rfl; revert hk; go_simp)
          case io4bigx7 =>
            intro k1 w1 hk0 hk1 hb1 hS hd KK hK
            have d5 : x5 = .bool false := hd 5 (by kernel_rfl)
            clear hd
            subst d5
            simp only [Act.put, List.setIfInBounds_toArray, List.set_cons_zero, List.set_cons_succ] at hK
            go_simp
            first | exact hK.out _ _ trivial hS rfl | (have hk := hK.out _ _ trivial hS rfl; revert hk; go_simp)
          case io4bigx8 =>
            intro k1 w1 hk0 hk1 hb1 hS hd KK hK
            have d5 : x5 = .bool false := hd 5 (by kernel_rfl)
            have d6 : x6 = .slice (some ⟨b, off, none⟩) xs.length c := hd 6 (by kernel_rfl)
            have d7 : x7 = .int .i64 (k : Int) := hd 7 (by kernel_rfl)
            clear hd
            subst d5
            subst d6
            subst d7
            simp only [Act.put, List.setIfInBounds_toArray, List.set_cons_zero, List.set_cons_succ] at hK
            go_simp
            first | exact hK.out _ _ trivial hS rfl | (have hk := hK.out _ _ trivial hS rfl; revert hk; go_simp)
          case io4bigx9 =>
            intro k1 w1 hk0 hk1 hb1 hS hd KK hK
            have d5 : x5 = .bool false := hd 5 (by kernel_rfl)
            have d8 : x8 = .pointer (some ⟨b, off + k, none⟩) := hd 8 (by kernel_rfl)
            clear hd
            subst d5
            subst d8
            obtain ⟨b9, o9, he, _, hcx⟩ := (hS.l 0 rfl).cell k hlt
            cases he
            rw [HX.out] at hcx
            simp only [Act.put, List.setIfInBounds_toArray, List.set_cons_zero, List.set_cons_succ] at hK
            go_simp
            first | exact hK.out _ _ trivial hS rfl | (have hk := hK.out _ _ trivial hS rfl; revert hk; go_simp)
          case io4bigx10 =>
            intro k1 w1 hk0 hk1 hb1 hS hd KK hK
            have d5 : x5 = .bool false := hd 5 (by kernel_rfl)
            clear hd
            subst d5
            simp only [Act.put, List.setIfInBounds_toArray, List.set_cons_zero, List.set_cons_succ] at hK
            go_simp
            first | exact hK.out _ _ trivial hS rfl | (have hk := hK.out _ _ trivial hS rfl; revert hk; go_simp)
          case io4bigx11 =>
            intro k1 w1 hk0 hk1 hb1 hS hd KK hK
            have d5 : x5 = .bool false := hd 5 (by kernel_rfl)
            have d9 : x9 = .int .i64 x := hd 9 (by kernel_rfl)
            have d10 : x10 = .int .i64 r := hd 10 (by kernel_rfl)
            clear hd
            subst d5
            subst d9
            subst d10
            have dx := DR.out
            simp only [Act.put, List.setIfInBounds_toArray, List.set_cons_zero, List.set_cons_succ] at hK
            go_simp
            first | exact hK.out _ _ trivial hS rfl | (have hk := hK.out _ _ trivial hS rfl; revert hk; go_simp)
          case io4bigx12 =>
            intro k1 w1 hk0 hk1 hb1 hS hd KK hK
            have d5 : x5 = .bool false := hd 5 (by kernel_rfl)
            have d11 : x11 = .bool true := hd 11 (by kernel_rfl)
            clear hd
            subst d5
            subst d11
            simp only [Act.put, List.setIfInBounds_toArray, List.set_cons_zero, List.set_cons_succ] at hK
            go_simp
            first | exact hK.out _ _ trivial hS rfl | (have hk := hK.out _ _ trivial hS rfl; revert hk; go_simp)
          case io4bigx13 =>
            intro k1 w1 hk0 hk1 hb1 hS hd KK hK
            have d5 : x5 = .bool false := hd 5 (by kernel_rfl)
            have d12 : x12 = .bool true := hd 12 (by kernel_rfl)
            clear hd
            subst d5
            subst d12
            simp only [Act.put, List.setIfInBounds_toArray, List.set_cons_zero, List.set_cons_succ] at hK
            go_simp
            first | exact hK.out _ _ trivial hS rfl | (have hk := hK.out _ _ trivial hS rfl; revert hk; go_simp)
          case io4bigx14 =>
            intro k1 w1 hk0 hk1 hb1 hS hd KK hK
            have d13 : x13 = .bool true := hd 13 (by kernel_rfl)
            clear hd
            subst d13
            simp only [Act.put, List.setIfInBounds_toArray, List.set_cons_zero, List.set_cons_succ] at hK
            go_simp
            first | exact hK.out _ _ trivial hS rfl | (have hk := hK.out _ _ trivial hS rfl; revert hk; go_simp)
          case io4bigx15 =>
            intro k1 w1 hk0 hk1 hb1 hS hd KK hK
            have d13 : x13 = .bool true := hd 13 (by kernel_rfl)
            have d14 : x14 = undef := hd 14 (by kernel_rfl)
            clear hd
            subst d13
            subst d14
            simp only [Act.put, List.setIfInBounds_toArray, List.set_cons_zero, List.set_cons_succ] at hK
            go_simp
            first | exact hK.out _ _ trivial hS rfl | (have hk := hK.out _ _ trivial hS rfl; revert hk; go_simp)
          case io4bigx16 =>
            intro k1 w1 hk0 hk1 hb1 hS hd KK hK
            have d13 : x13 = .bool true := hd 13 (by kernel_rfl)
            have d15 : x15 = undef := hd 15 (by kernel_rfl)
            clear hd
            subst d13
            subst d15
            simp only [Act.put, List.setIfInBounds_toArray, List.set_cons_zero, List.set_cons_succ] at hK
            go_simp
            first | exact hK.out _ _ trivial hS rfl | (have hk := hK.out _ _ trivial hS rfl; revert hk; go_simp)
          case io4bigx17 =>
            intro k1 w1 hk0 hk1 hb1 hS hd KK hK
            have d16 : x16 = undef := hd 16 (by kernel_rfl)
            clear hd
            subst d16
            simp only [Act.put, List.setIfInBounds_toArray, List.set_cons_zero, List.set_cons_succ] at hK
            go_simp
            first | exact hK.out _ _ trivial hS rfl | (have hk := hK.out _ _ trivial hS rfl; revert hk; go_simp)
          case io4bigx18 =>
            intro k1 w1 hk0 hk1 hb1 hS hd KK hK
            have d16 : x16 = undef := hd 16 (by kernel_rfl)
            clear hd
            subst d16
            simp only [Act.put, List.setIfInBounds_toArray, List.set_cons_zero, List.set_cons_succ] at hK
            go_simp
            first | exact hK.out _ _ trivial hS rfl | (have hk := hK.out _ _ trivial hS rfl; revert hk; go_simp)
          case io4bigx19 =>
            intro k1 w1 hk0 hk1 hb1 hS hd KK hK
            have d16 : x16 = undef := hd 16 (by kernel_rfl)
            have d17 : x17 = undef := hd 17 (by kernel_rfl)
            have d18 : x18 = undef := hd 18 (by kernel_rfl)
            clear hd
            subst d16
            subst d17
            subst d18
            simp only [Act.put, List.setIfInBounds_toArray, List.set_cons_zero, List.set_cons_succ] at hK
            go_simp
            first | exact hK.out _ _ trivial hS rfl | (have hk := hK.out _ _ trivial hS rfl; revert hk; go_simp)
          case io4bigx20 =>
            intro k1 w1 hk0 hk1 hb1 hS hd KK hK
            have d16 : x16 = undef := hd 16 (by kernel_rfl)
            have d19 : x19 = undef := hd 19 (by kernel_rfl)
            clear hd
            subst d16
            subst d19
            simp only [Act.put, List.setIfInBounds_toArray, List.set_cons_zero, List.set_cons_succ] at hK
            go_simp
            first | exact hK.out _ _ trivial hS rfl | (have hk := hK.out _ _ trivial hS rfl; revert hk; go_simp)
          case io4bigx21 =>
            intro k1 w1 hk0 hk1 hb1 hS hd KK hK
            have d16 : x16 = undef := hd 16 (by kernel_rfl)
            clear hd
            subst d16
            simp only [Act.put, List.setIfInBounds_toArray, List.set_cons_zero, List.set_cons_succ] at hK
            go_simp
            first | exact hK.out _ _ trivial hS rfl | (have hk := hK.out _ _ trivial hS rfl; revert hk; go_simp)
          case io4bigx22 =>
            intro k1 w1 hk0 hk1 hb1 hS hd KK hK
            have d16 : x16 = undef := hd 16 (by kernel_rfl)
            clear hd
            subst d16
            simp only [Act.put, List.setIfInBounds_toArray, List.set_cons_zero, List.set_cons_succ] at hK
            go_simp
            first | exact hK.out _ _ trivial hS rfl | (have hk := hK.out _ _ trivial hS rfl; revert hk; go_simp)
          case io4bigx23 =>
            intro k1 w1 hk0 hk1 hb1 hS hd KK hK
            have d16 : x16 = undef := hd 16 (by kernel_rfl)
            have d22 : x22 = undef := hd 22 (by kernel_rfl)
            clear hd
            subst d16
            subst d22
            simp only [Act.put, List.setIfInBounds_toArray, List.set_cons_zero, List.set_cons_succ] at hK
            go_simp
            first | exact hK.out _ _ trivial hS rfl | (have hk := hK.out _ _ trivial hS rfl; revert hk; go_simp)
          case io4bigx24 =>
            intro k1 w1 hk0 hk1 hb1 hS hd KK hK
            have d16 : x16 = undef := hd 16 (by kernel_rfl)
            have d21 : x21 = undef := hd 21 (by kernel_rfl)
            have d23 : x23 = undef := hd 23 (by kernel_rfl)
            clear hd
            subst d16
            subst d21
            subst d23
            simp only [Act.put, List.setIfInBounds_toArray, List.set_cons_zero, List.set_cons_succ] at hK
            go_simp
            first | exact hK.out _ _ trivial hS rfl | (have hk := hK.out _ _ trivial hS rfl; revert hk; go_simp)
          case io4bigx25 =>
            intro k1 w1 hk0 hk1 hb1 hS hd KK hK
            have d16 : x16 = undef := hd 16 (by kernel_rfl)
            have d24 : x24 = undef := hd 24 (by kernel_rfl)
            clear hd
            subst d16
            subst d24
            simp only [Act.put, List.setIfInBounds_toArray, List.set_cons_zero, List.set_cons_succ] at hK
            go_simp
            first | exact hK.out _ _ trivial hS rfl | (have hk := hK.out _ _ trivial hS rfl; revert hk; go_simp)
          case io4bigx26 =>
            intro k1 w1 hk0 hk1 hb1 hS hd KK hK
            have d16 : x16 = undef := hd 16 (by kernel_rfl)
            have d20 : x20 = undef := hd 20 (by kernel_rfl)
            have d25 : x25 = undef := hd 25 (by kernel_rfl)
            clear hd
            subst d16
            subst d20
            subst d25
            simp only [Act.put, List.setIfInBounds_toArray, List.set_cons_zero, List.set_cons_succ] at hK
            go_simp
            first | exact hK.out _ _ trivial hS rfl | (have hk := hK.out _ _ trivial hS rfl; revert hk; go_simp)
          case io4bigx27 =>
            intro k1 w1 hk0 hk1 hb1 hS hd KK hK
            have d13 : x13 = .bool true := hd 13 (by kernel_rfl)
            have d16 : x16 = undef := hd 16 (by kernel_rfl)
            have d26 : x26 = undef := hd 26 (by kernel_rfl)
            clear hd
            subst d13
            subst d16
            subst d26
            simp only [Act.put, List.setIfInBounds_toArray, List.set_cons_zero, List.set_cons_succ] at hK
            go_simp
            first | exact hK.out _ _ trivial hS rfl | (have hk := hK.out _ _ trivial hS rfl; revert hk; go_simp)
          case io4bigx28 =>
            intro k1 w1 hk0 hk1 hb1 hS hd KK hK
            have d13 : x13 = .bool true := hd 13 (by kernel_rfl)
            have d27 : x27 = undef := hd 27 (by kernel_rfl)
            clear hd
            subst d13
            subst d27
            simp only [Act.put, List.setIfInBounds_toArray, List.set_cons_zero, List.set_cons_succ] at hK
            go_simp
            first | exact hK.out _ _ trivial hS rfl | (have hk := hK.out _ _ trivial hS rfl; revert hk; go_simp)
          case iend4big =>
            intro w1 hb1 hS hR
            have d0 : x0 = .slice (some ⟨b, off, none⟩) xs.length c := hR 0 (by decide)
            have d1 : x1 = .int .i64 (k : Int) := hR 1 (by decide)
            have d2 : x2 = .pointer (some ⟨b, off + k, none⟩) := hR 2 (by decide)
            have d3 : x3 = .int .i64 x := hR 3 (by decide)
            have d4 : x4 = .bool false := hR 4 (by decide)
            have d5 : x5 = .bool false := hR 5 (by decide)
            have d6 : x6 = .slice (some ⟨b, off, none⟩) xs.length c := hR 6 (by decide)
            have d7 : x7 = .int .i64 (k : Int) := hR 7 (by decide)
            have d8 : x8 = .pointer (some ⟨b, off + k, none⟩) := hR 8 (by decide)
            have d9 : x9 = .int .i64 x := hR 9 (by decide)
            have d10 : x10 = .int .i64 r := hR 10 (by decide)
            have d11 : x11 = .bool true := hR 11 (by decide)
            have d12 : x12 = .bool true := hR 12 (by decide)
            have d13 : x13 = .bool true := hR 13 (by decide)
            have d14 : x14 = undef := hR 14 (by decide)
            have d15 : x15 = undef := hR 15 (by decide)
            have d16 : x16 = undef := hR 16 (by decide)
            have d17 : x17 = undef := hR 17 (by decide)
            have d18 : x18 = undef := hR 18 (by decide)
            have d19 : x19 = undef := hR 19 (by decide)
            have d20 : x20 = undef := hR 20 (by decide)
            have d21 : x21 = undef := hR 21 (by decide)
            have d22 : x22 = undef := hR 22 (by decide)
            have d23 : x23 = undef := hR 23 (by decide)
            have d24 : x24 = undef := hR 24 (by decide)
            have d25 : x25 = undef := hR 25 (by decide)
            have d26 : x26 = undef := hR 26 (by decide)
            have d27 : x27 = undef := hR 27 (by decide)
            have d28 : x28 = .bool true := hR 28 (by decide)
            clear hR
            subst d0
            subst d1
            subst d2
            subst d3
            subst d4
            subst d5
            subst d6
            subst d7
            subst d8
            subst d9
            subst d10
            subst d11
            subst d12
            subst d13
            subst d14
            subst d15
            subst d16
            subst d17
            subst d18
            subst d19
            subst d20
            subst d21
            subst d22
            subst d23
            subst d24
            subst d25
            subst d26
            subst d27
            subst d28
            try simp only [putAll, Act.put, List.setIfInBounds_toArray, List.set_cons_zero, List.set_cons_succ]
            have F3 := Lib.hid hS
            clear hS hb1 F2
            go_wp2
            go_ret
            exact ⟨by rw [HF.out]; rfl, F3.out.bel⟩
        · skip
          by_cases h3 : k = 0
          · skip
            have hLm := HL1.out h3
            have HF : Hid (axB (-1) r xs = axB (lastJ xs (k + 1)) r (xs.drop (k + 1)) ∧ -1 ≤ lastJ xs (k + 1)) := Lib.hid (by rw [HAX.out, HLJ.out, decide_eq_true (by omega : L < x), decide_eq_true (by omega : x < r)]; exact ⟨rfl, by omega⟩)
            clear HAX
            have h4 : ¬ (0 : Int) < (k : Int) := by omega
            have DX := Lib.hid (decide_eq_false (by omega : ¬ x < 0))
            have DR := Lib.hid (decide_eq_false (by omega : ¬ r ≤ x))
            have DK := Lib.hid (decide_eq_false (by omega : ¬ 0 < k))
            clear h3 hLm
            go_wp2
            refine wp_region_inv (w := wo) 29 (fun _ _ => True) (fun _ W => Fr w.heap.size w W [] [(.i64, (some ⟨b, off, none⟩), xs)] [] []) [] [(fun u _ => u = .slice (some ⟨b, off, none⟩) xs.length c), (fun u _ => u = .int .i64 (k : Int)), (fun u _ => u = .pointer (some ⟨b, off + k, none⟩)), (fun u _ => u = .int .i64 x), (fun u _ => u = .bool false), (fun u _ => u = .bool false), (fun u _ => u = .slice (some ⟨b, off, none⟩) xs.length c), (fun u _ => u = .int .i64 (k : Int)), (fun u _ => u = .pointer (some ⟨b, off + k, none⟩)), (fun u _ => u = .int .i64 x), (fun u _ => u = .int .i64 r), (fun u _ => u = .bool false), (fun u _ => u = .bool false), (fun u _ => u = .bool false), (fun u _ => u = .int .i64 (k : Int)), (fun u _ => u = .bool false), (fun u _ => u = .bool false), (fun u _ => u = undef), (fun u _ => u = undef), (fun u _ => u = undef), (fun u _ => u = undef), (fun u _ => u = undef), (fun u _ => u = undef), (fun u _ => u = undef), (fun u _ => u = undef), (fun u _ => u = undef), (fun u _ => u = undef), (fun u _ => u = .bool false), (fun u _ => u = .bool false)] [some 12, some 13, some 14, some 15, some 16, some 17, some 18, some 19, some 20, some 21, some 22, some 23, some 24, some 25, some 26, some 27, some 28, some 29, some 30, some 31, some 32, some 33, some 34, some 35, some 36, some 37, some 38, some 39, some 40] (by kernel_rfl) (by kernel_rfl) rfl (by kernel_rfl) (by kernel_rfl) (by decide) (by decide) (fun _ _ => trivial) trivial F2.out.drew (BorneAll.at (.cons (borne_eq _) (.cons (borne_eq _) (.cons (borne_eq _) (.cons (borne_eq _) (.cons (borne_eq _) (.cons (borne_eq _) (.cons (borne_eq _) (.cons (borne_eq _) (.cons (borne_eq _) (.cons (borne_eq _) (.cons (borne_eq _) (.cons (borne_eq _) (.cons (borne_eq _) (.cons (borne_eq _) (.cons (borne_eq _) (.cons (borne_eq _) (.cons (borne_eq _) (.cons (borne_eq _) (.cons (borne_eq _) (.cons (borne_eq _) (.cons (borne_eq _) (.cons (borne_eq _) (.cons (borne_eq _) (.cons (borne_eq _) (.cons (borne_eq _) (.cons (borne_eq _) (.cons (borne_eq _) (.cons (borne_eq _) (.cons (borne_eq _) .nil)))))))))))))))))))))))))))))) (fun vs b hvl hvb => ?_)
            obtain ⟨x0, x1, x2, x3, x4, x5, x6, x7, x8, x9, x10, x11, x12, x13, x14, x15, x16, x17, x18, x19, x20, x21, x22, x23, x24, x25, x26, x27, x28, rfl⟩ : ∃ x0 x1 x2 x3 x4 x5 x6 x7 x8 x9 x10 x11 x12 x13 x14 x15 x16 x17 x18 x19 x20 x21 x22 x23 x24 x25 x26 x27 x28, vs = [x0, x1, x2, x3, x4, x5, x6, x7, x8, x9, x10, x11, x12, x13, x14, x15, x16, x17, x18, x19, x20, x21, x22, x23, x24, x25, x26, x27, x28] := lst29 hvl
            clear hvl
            simp only [putAll, Act.put, List.setIfInBounds_toArray, List.set_cons_zero, List.set_cons_succ] at hvb
            subst hvb
            refine ⟨(.snoc (.snoc (.snoc (.snoc (.snoc (.snoc (.snoc (.snoc (.snoc (.snoc (.snoc (.snoc (.snoc (.snoc (.snoc (.snoc (.snoc (.snoc (.snoc (.snoc (.snoc (.snoc (.snoc (.snoc (.snoc (.snoc (.snoc (.snoc (.snoc .zero (InvOb.intro (d := (some 12)) (r := fun u _ => u = .slice (some ⟨b, off, none⟩) xs.length c) 0 0 rfl rfl rfl (by kernel_rfl) (by kernel_rfl) rfl ?io4firstx0)) (InvOb.intro (d := (some 13)) (r := fun u _ => u = .int .i64 (k : Int)) 0 0 rfl rfl rfl (by kernel_rfl) (by kernel_rfl) rfl ?io4firstx1)) (InvOb.intro (d := (some 14)) (r := fun u _ => u = .pointer (some ⟨b, off + k, none⟩)) 0 0 rfl rfl rfl (by kernel_rfl) (by kernel_rfl) rfl ?io4firstx2)) (InvOb.intro (d := (some 15)) (r := fun u _ => u = .int .i64 x) 0 0 rfl rfl rfl (by kernel_rfl) (by kernel_rfl) rfl ?io4firstx3)) (InvOb.intro (d := (some 16)) (r := fun u _ => u = .bool false) 0 0 rfl rfl rfl (by kernel_rfl) (by kernel_rfl) rfl ?io4firstx4)) (InvOb.intro (d := (some 17)) (r := fun u _ => u = .bool false) 0 0 rfl rfl rfl (by kernel_rfl) (by kernel_rfl) rfl ?io4firstx5)) (InvOb.intro (d := (some 18)) (r := fun u _ => u = .slice (some ⟨b, off, none⟩) xs.length c) 0 0 rfl rfl rfl (by kernel_rfl) (by kernel_rfl) rfl ?io4firstx6)) (InvOb.intro (d := (some 19)) (r := fun u _ => u = .int .i64 (k : Int)) 0 0 rfl rfl rfl (by kernel_rfl) (by kernel_rfl) rfl ?io4firstx7)) (InvOb.intro (d := (some 20)) (r := fun u _ => u = .pointer (some ⟨b, off + k, none⟩)) 0 0 rfl rfl rfl (by kernel_rfl) (by kernel_rfl) rfl ?io4firstx8)) (InvOb.intro (d := (some 21)) (r := fun u _ => u = .int .i64 x) 0 0 rfl rfl rfl (by kernel_rfl) (by kernel_rfl) rfl ?io4firstx9)) (InvOb.intro (d := (some 22)) (r := fun u _ => u = .int .i64 r) 0 0 rfl rfl rfl (by kernel_rfl) (by kernel_rfl) rfl ?io4firstx10)) (InvOb.intro (d := (some 23)) (r := fun u _ => u = .bool false) 0 0 rfl rfl rfl (by kernel_rfl) (by kernel_rfl) rfl ?io4firstx11)) (InvOb.intro (d := (some 24)) (r := fun u _ => u = .bool false) 0 0 rfl rfl rfl (by kernel_rfl) (by kernel_rfl) rfl ?io4firstx12)) (InvOb.intro (d := (some 25)) (r := fun u _ => u = .bool false) 0 0 rfl rfl rfl (by kernel_rfl) (by kernel_rfl) rfl ?io4firstx13)) (InvOb.intro (d := (some 26)) (r := fun u _ => u = .int .i64 (k : Int)) 0 0 rfl rfl rfl (by kernel_rfl) (by kernel_rfl) rfl ?io4firstx14)) (InvOb.intro (d := (some 27)) (r := fun u _ => u = .bool false) 0 0 rfl rfl rfl (by kernel_rfl) (by kernel_rfl) rfl ?io4firstx15)) (InvOb.intro (d := (some 28)) (r := fun u _ => u = .bool false) 0 0 rfl rfl rfl (by kernel_rfl) (by kernel_rfl) rfl ?io4firstx16)) (InvOb.intro (d := (some 29)) (r := fun u _ => u = undef) 0 0 rfl rfl rfl (by kernel_rfl) (by kernel_rfl) rfl ?io4firstx17)) (InvOb.intro (d := (some 30)) (r := fun u _ => u = undef) 0 0 rfl rfl rfl (by kernel_rfl) (by kernel_rfl) rfl ?io4firstx18)) (InvOb.intro (d := (some 31)) (r := fun u _ => u = undef) 0 0 rfl rfl rfl (by kernel_rfl) (by kernel_rfl) rfl ?io4firstx19)) (InvOb.intro (d := (some 32)) (r := fun u _ => u = undef) 0 0 rfl rfl rfl (by kernel_rfl) (by kernel_rfl) rfl ?io4firstx20)) (InvOb.intro (d := (some 33)) (r := fun u _ => u = undef) 0 0 rfl rfl rfl (by kernel_rfl) (by kernel_rfl) rfl ?io4firstx21)) (InvOb.intro (d := (some 34)) (r := fun u _ => u = undef) 0 0 rfl rfl rfl (by kernel_rfl) (by kernel_rfl) rfl ?io4firstx22)) (InvOb.intro (d := (some 35)) (r := fun u _ => u = undef) 0 0 rfl rfl rfl (by kernel_rfl) (by kernel_rfl) rfl ?io4firstx23)) (InvOb.intro (d := (some 36)) (r := fun u _ => u = undef) 0 0 rfl rfl rfl (by kernel_rfl) (by kernel_rfl) rfl ?io4firstx24)) (InvOb.intro (d := (some 37)) (r := fun u _ => u = undef) 0 0 rfl rfl rfl (by kernel_rfl) (by kernel_rfl) rfl ?io4firstx25)) (InvOb.intro (d := (some 38)) (r := fun u _ => u = undef) 0 0 rfl rfl rfl (by kernel_rfl) (by kernel_rfl) rfl ?io4firstx26)) (InvOb.intro (d := (some 39)) (r := fun u _ => u = .bool false) 0 0 rfl rfl rfl (by kernel_rfl) (by kernel_rfl) rfl ?io4firstx27)) (InvOb.intro (d := (some 40)) (r := fun u _ => u = .bool false) 0 0 rfl rfl rfl (by kernel_rfl) (by kernel_rfl) rfl ?io4firstx28)), ?iend4first⟩
            case io4firstx0 =>
              intro k1 w1 hk0 hk1 hb1 hS hd KK hK
              clear hd
              simp only [Act.put, List.setIfInBounds_toArray, List.set_cons_zero, List.set_cons_succ] at hK
              go_simp
              first | exact hK.out _ _ trivial hS rfl | (have hk := hK.out _ _ trivial hS rfl; revert hk; go_simp)
            case io4firstx1 =>
              intro k1 w1 hk0 hk1 hb1 hS hd KK hK
              clear hd
              simp only [Act.put, List.setIfInBounds_toArray, List.set_cons_zero, List.set_cons_succ] at hK
              go_simp
              first | exact hK.out _ _ trivial hS rfl | (have hk := hK.out _ _ trivial hS rfl; revert hk; go_simp)
            case io4firstx2 =>
              intro k1 w1 hk0 hk1 hb1 hS hd KK hK
              have d0 : x0 = .slice (some ⟨b, off, none⟩) xs.length c := hd 0 (by kernel_rfl)
              have d1 : x1 = .int .i64 (k : Int) := hd 1 (by kernel_rfl)
              clear hd
              subst d0
              subst d1
              simp only [Act.put, List.setIfInBounds_toArray, List.set_cons_zero, List.set_cons_succ] at hK
              go_simp
              first | exact hK.out _ _ trivial hS rfl | (have hk := hK.out _ _ trivial hS rfl; revert hk; go_simp)
            case io4firstx3 =>
              intro k1 w1 hk0 hk1 hb1 hS hd KK hK
              have d2 : x2 = .pointer (some ⟨b, off + k, none⟩) := hd 2 (by kernel_rfl)
              clear hd
              subst d2
              obtain ⟨b9, o9, he, _, hcx⟩ := (hS.l 0 rfl).cell k hlt
              cases he
              rw [HX.out] at hcx
              simp only [Act.put, List.setIfInBounds_toArray, List.set_cons_zero, List.set_cons_succ] at hK
              go_simp
              first | exact hK.out _ _ trivial hS rfl | (have hk := hK.out _ _ trivial hS rfl; revert hk; go_simp)
            case io4firstx4 =>
              intro k1 w1 hk0 hk1 hb1 hS hd KK hK
              have d3 : x3 = .int .i64 x := hd 3 (by kernel_rfl)
              clear hd
              subst d3
              have dx := DX.out
              simp only [Act.put, List.setIfInBounds_toArray, List.set_cons_zero, List.set_cons_succ] at hK
              go_simp
              first | exact hK.out _ _ trivial hS rfl | (have hk := hK.out _ _ trivial hS rfl; revert hk; go_simp)
            case io4firstx5 =>
              intro k1 w1 hk0 hk1 hb1 hS hd KK hK
              have d4 : x4 = .bool false := hd 4 (by kernel_rfl)
              clear hd
              subst d4
              simp only [Act.put, List.setIfInBounds_toArray, List.set_cons_zero, List.set_cons_succ] at hK
              go_simp
              first | exact hK.out _ _ trivial hS rfl | (have hk := hK.out _ _ trivial hS rfl; revert hk; go_simp)
            case io4firstx6 =>
              intro k1 w1 hk0 hk1 hb1 hS hd KK hK
              have d5 : x5 = .bool false := hd 5 (by kernel_rfl)
              clear hd
              subst d5
              simp only [Act.put, List.setIfInBounds_toArray, List.set_cons_zero, List.set_cons_succ] at hK
              go_simp
              first | exact hK.out _ _ trivial hS rfl | (have hk := hK.out _ _ trivial hS rfl; revert hk; go_simp)
            case io4firstx7 =>
              intro k1 w1 hk0 hk1 hb1 hS hd KK hK
              have d5 : x5 = .bool false := hd 5 (by kernel_rfl)
              clear hd
              subst d5
              simp only [Act.put, List.setIfInBounds_toArray, List.set_cons_zero, List.set_cons_succ] at hK
              go_simp
              first | exact hK.out _ _ trivial hS rfl | (have hk := hK.out _ _ trivial hS rfl; revert hk; go_simp)
            case io4firstx8 =>
              intro k1 w1 hk0 hk1 hb1 hS hd KK hK
              have d5 : x5 = .bool false := hd 5 (by kernel_rfl)
              have d6 : x6 = .slice (some ⟨b, off, none⟩) xs.length c := hd 6 (by kernel_rfl)
              have d7 : x7 = .int .i64 (k : Int) := hd 7 (by kernel_rfl)
              clear hd
              subst d5
              subst d6
              subst d7
              simp only [Act.put, List.setIfInBounds_toArray, List.set_cons_zero, List.set_cons_succ] at hK
              go_simp
              first | exact hK.out _ _ trivial hS rfl | (have hk := hK.out _ _ trivial hS rfl; revert hk; go_simp)
            case io4firstx9 =>
              intro k1 w1 hk0 hk1 hb1 hS hd KK hK
              have d5 : x5 = .bool false := hd 5 (by kernel_rfl)
              have d8 : x8 = .pointer (some ⟨b, off + k, none⟩) := hd 8 (by kernel_rfl)
              clear hd
              subst d5
              subst d8
              obtain ⟨b9, o9, he, _, hcx⟩ := (hS.l 0 rfl).cell k hlt
              cases he
              rw [HX.out] at hcx
              simp only [Act.put, List.setIfInBounds_toArray, List.set_cons_zero, List.set_cons_succ] at hK
              go_simp
              first | exact hK.out _ _ trivial hS rfl | (have hk := hK.out _ _ trivial hS rfl; revert hk; go_simp)
            case io4firstx10 =>
              intro k1 w1 hk0 hk1 hb1 hS hd KK hK
              have d5 : x5 = .bool false := hd 5 (by kernel_rfl)
              clear hd
              subst d5
              simp only [Act.put, List.setIfInBounds_toArray, List.set_cons_zero, List.set_cons_succ] at hK
              go_simp
              first | exact hK.out _ _ trivial hS rfl | (have hk := hK.out _ _ trivial hS rfl; revert hk; go_simp)
            case io4firstx11 =>
              intro k1 w1 hk0 hk1 hb1 hS hd KK hK
              have d5 : x5 = .bool false := hd 5 (by kernel_rfl)
              have d9 : x9 = .int .i64 x := hd 9 (by kernel_rfl)
              have d10 : x10 = .int .i64 r := hd 10 (by kernel_rfl)
              clear hd
              subst d5
              subst d9
              subst d10
              have dx := DR.out
              simp only [Act.put, List.setIfInBounds_toArray, List.set_cons_zero, List.set_cons_succ] at hK
              go_simp
              first | exact hK.out _ _ trivial hS rfl | (have hk := hK.out _ _ trivial hS rfl; revert hk; go_simp)
            case io4firstx12 =>
              intro k1 w1 hk0 hk1 hb1 hS hd KK hK
              have d5 : x5 = .bool false := hd 5 (by kernel_rfl)
              have d11 : x11 = .bool false := hd 11 (by kernel_rfl)
              clear hd
              subst d5
              subst d11
              simp only [Act.put, List.setIfInBounds_toArray, List.set_cons_zero, List.set_cons_succ] at hK
              go_simp
              first | exact hK.out _ _ trivial hS rfl | (have hk := hK.out _ _ trivial hS rfl; revert hk; go_simp)
            case io4firstx13 =>
              intro k1 w1 hk0 hk1 hb1 hS hd KK hK
              have d5 : x5 = .bool false := hd 5 (by kernel_rfl)
              have d12 : x12 = .bool false := hd 12 (by kernel_rfl)
              clear hd
              subst d5
              subst d12
              simp only [Act.put, List.setIfInBounds_toArray, List.set_cons_zero, List.set_cons_succ] at hK
              go_simp
              first | exact hK.out _ _ trivial hS rfl | (have hk := hK.out _ _ trivial hS rfl; revert hk; go_simp)
            case io4firstx14 =>
              intro k1 w1 hk0 hk1 hb1 hS hd KK hK
              have d13 : x13 = .bool false := hd 13 (by kernel_rfl)
              clear hd
              subst d13
              simp only [Act.put, List.setIfInBounds_toArray, List.set_cons_zero, List.set_cons_succ] at hK
              go_simp
              first | exact hK.out _ _ trivial hS rfl | (have hk := hK.out _ _ trivial hS rfl; revert hk; go_simp)
            case io4firstx15 =>
              intro k1 w1 hk0 hk1 hb1 hS hd KK hK
              have d13 : x13 = .bool false := hd 13 (by kernel_rfl)
              have d14 : x14 = .int .i64 (k : Int) := hd 14 (by kernel_rfl)
              clear hd
              subst d13
              subst d14
              have dx := DK.out
              simp only [Act.put, List.setIfInBounds_toArray, List.set_cons_zero, List.set_cons_succ] at hK
              go_simp
              first | exact hK.out _ _ trivial hS rfl | (have hk := hK.out _ _ trivial hS rfl; revert hk; go_simp)
            case io4firstx16 =>
              intro k1 w1 hk0 hk1 hb1 hS hd KK hK
              have d13 : x13 = .bool false := hd 13 (by kernel_rfl)
              have d15 : x15 = .bool false := hd 15 (by kernel_rfl)
              clear hd
              subst d13
              subst d15
              simp only [Act.put, List.setIfInBounds_toArray, List.set_cons_zero, List.set_cons_succ] at hK
              go_simp
              first | exact hK.out _ _ trivial hS rfl | (have hk := hK.out _ _ trivial hS rfl; revert hk; go_simp)
            case io4firstx17 =>
              intro k1 w1 hk0 hk1 hb1 hS hd KK hK
              have d16 : x16 = .bool false := hd 16 (by kernel_rfl)
              clear hd
              subst d16
              simp only [Act.put, List.setIfInBounds_toArray, List.set_cons_zero, List.set_cons_succ] at hK
              go_simp
              first | exact hK.out _ _ trivial hS rfl | (have hk := hK.out _ _ trivial hS rfl; revert hk; go_simp)
            case io4firstx18 =>
              intro k1 w1 hk0 hk1 hb1 hS hd KK hK
              have d16 : x16 = .bool false := hd 16 (by kernel_rfl)
              clear hd
              subst d16
              simp only [Act.put, List.setIfInBounds_toArray, List.set_cons_zero, List.set_cons_succ] at hK
              go_simp
              first | exact hK.out _ _ trivial hS rfl | (have hk := hK.out _ _ trivial hS rfl; revert hk; go_simp)
            case io4firstx19 =>
              intro k1 w1 hk0 hk1 hb1 hS hd KK hK
              have d16 : x16 = .bool false := hd 16 (by kernel_rfl)
              have d17 : x17 = undef := hd 17 (by kernel_rfl)
              have d18 : x18 = undef := hd 18 (by kernel_rfl)
              clear hd
              subst d16
              subst d17
              subst d18
              simp only [Act.put, List.setIfInBounds_toArray, List.set_cons_zero, List.set_cons_succ] at hK
              go_simp
              first | exact hK.out _ _ trivial hS rfl | (have hk := hK.out _ _ trivial hS rfl; revert hk; go_simp)
            case io4firstx20 =>
              intro k1 w1 hk0 hk1 hb1 hS hd KK hK
              have d16 : x16 = .bool false := hd 16 (by kernel_rfl)
              have d19 : x19 = undef := hd 19 (by kernel_rfl)
              clear hd
              subst d16
              subst d19
              simp only [Act.put, List.setIfInBounds_toArray, List.set_cons_zero, List.set_cons_succ] at hK
              go_simp
              first | exact hK.out _ _ trivial hS rfl | (have hk := hK.out _ _ trivial hS rfl; revert hk; go_simp)
            case io4firstx21 =>
              intro k1 w1 hk0 hk1 hb1 hS hd KK hK
              have d16 : x16 = .bool false := hd 16 (by kernel_rfl)
              clear hd
              subst d16
              simp only [Act.put, List.setIfInBounds_toArray, List.set_cons_zero, List.set_cons_succ] at hK
              go_simp
              first | exact hK.out _ _ trivial hS rfl | (have hk := hK.out _ _ trivial hS rfl; revert hk; go_simp)
            case io4firstx22 =>
              intro k1 w1 hk0 hk1 hb1 hS hd KK hK
              have d16 : x16 = .bool false := hd 16 (by kernel_rfl)
              clear hd
              subst d16
              simp only [Act.put, List.setIfInBounds_toArray, List.set_cons_zero, List.set_cons_succ] at hK
              go_simp
              first | exact hK.out _ _ trivial hS rfl | (have hk := hK.out _ _ trivial hS rfl; revert hk; go_simp)
            case io4firstx23 =>
              intro k1 w1 hk0 hk1 hb1 hS hd KK hK
              have d16 : x16 = .bool false := hd 16 (by kernel_rfl)
              have d22 : x22 = undef := hd 22 (by kernel_rfl)
              clear hd
              subst d16
              subst d22
              simp only [Act.put, List.setIfInBounds_toArray, List.set_cons_zero, List.set_cons_succ] at hK
              go_simp
              first | exact hK.out _ _ trivial hS rfl | (have hk := hK.out _ _ trivial hS rfl; revert hk; go_simp)
            case io4firstx24 =>
              intro k1 w1 hk0 hk1 hb1 hS hd KK hK
              have d16 : x16 = .bool false := hd 16 (by kernel_rfl)
              have d21 : x21 = undef := hd 21 (by kernel_rfl)
              have d23 : x23 = undef := hd 23 (by kernel_rfl)
              clear hd
              subst d16
              subst d21
              subst d23
              simp only [Act.put, List.setIfInBounds_toArray, List.set_cons_zero, List.set_cons_succ] at hK
              go_simp
              first | exact hK.out _ _ trivial hS rfl | (have hk := hK.out _ _ trivial hS rfl; revert hk; go_simp)
            case io4firstx25 =>
              intro k1 w1 hk0 hk1 hb1 hS hd KK hK
              have d16 : x16 = .bool false := hd 16 (by kernel_rfl)
              have d24 : x24 = undef := hd 24 (by kernel_rfl)
              clear hd
              subst d16
              subst d24
              simp only [Act.put, List.setIfInBounds_toArray, List.set_cons_zero, List.set_cons_succ] at hK
              go_simp
              first | exact hK.out _ _ trivial hS rfl | (have hk := hK.out _ _ trivial hS rfl; revert hk; go_simp)
            case io4firstx26 =>
              intro k1 w1 hk0 hk1 hb1 hS hd KK hK
              have d16 : x16 = .bool false := hd 16 (by kernel_rfl)
              have d20 : x20 = undef := hd 20 (by kernel_rfl)
              have d25 : x25 = undef := hd 25 (by kernel_rfl)
              clear hd
              subst d16
              subst d20
              subst d25
              simp only [Act.put, List.setIfInBounds_toArray, List.set_cons_zero, List.set_cons_succ] at hK
              go_simp
              first | exact hK.out _ _ trivial hS rfl | (have hk := hK.out _ _ trivial hS rfl; revert hk; go_simp)
            case io4firstx27 =>
              intro k1 w1 hk0 hk1 hb1 hS hd KK hK
              have d13 : x13 = .bool false := hd 13 (by kernel_rfl)
              have d16 : x16 = .bool false := hd 16 (by kernel_rfl)
              have d26 : x26 = undef := hd 26 (by kernel_rfl)
              clear hd
              subst d13
              subst d16
              subst d26
              simp only [Act.put, List.setIfInBounds_toArray, List.set_cons_zero, List.set_cons_succ] at hK
              go_simp
              first | exact hK.out _ _ trivial hS rfl | (have hk := hK.out _ _ trivial hS rfl; revert hk; go_simp)
            case io4firstx28 =>
              intro k1 w1 hk0 hk1 hb1 hS hd KK hK
              have d13 : x13 = .bool false := hd 13 (by kernel_rfl)
              have d27 : x27 = .bool false := hd 27 (by kernel_rfl)
              clear hd
              subst d13
              subst d27
              simp only [Act.put, List.setIfInBounds_toArray, List.set_cons_zero, List.set_cons_succ] at hK
              go_simp
              first | exact hK.out _ _ trivial hS rfl | (have hk := hK.out _ _ trivial hS rfl; revert hk; go_simp)
            case iend4first =>
              intro w1 hb1 hS hR
              have d0 : x0 = .slice (some ⟨b, off, none⟩) xs.length c := hR 0 (by decide)
              have d1 : x1 = .int .i64 (k : Int) := hR 1 (by decide)
              have d2 : x2 = .pointer (some ⟨b, off + k, none⟩) := hR 2 (by decide)
              have d3 : x3 = .int .i64 x := hR 3 (by decide)
              have d4 : x4 = .bool false := hR 4 (by decide)
              have d5 : x5 = .bool false := hR 5 (by decide)
              have d6 : x6 = .slice (some ⟨b, off, none⟩) xs.length c := hR 6 (by decide)
              have d7 : x7 = .int .i64 (k : Int) := hR 7 (by decide)
              have d8 : x8 = .pointer (some ⟨b, off + k, none⟩) := hR 8 (by decide)
              have d9 : x9 = .int .i64 x := hR 9 (by decide)
              have d10 : x10 = .int .i64 r := hR 10 (by decide)
              have d11 : x11 = .bool false := hR 11 (by decide)
              have d12 : x12 = .bool false := hR 12 (by decide)
              have d13 : x13 = .bool false := hR 13 (by decide)
              have d14 : x14 = .int .i64 (k : Int) := hR 14 (by decide)
              have d15 : x15 = .bool false := hR 15 (by decide)
              have d16 : x16 = .bool false := hR 16 (by decide)
              have d17 : x17 = undef := hR 17 (by decide)
              have d18 : x18 = undef := hR 18 (by decide)
              have d19 : x19 = undef := hR 19 (by decide)
              have d20 : x20 = undef := hR 20 (by decide)
              have d21 : x21 = undef := hR 21 (by decide)
              have d22 : x22 = undef := hR 22 (by decide)
              have d23 : x23 = undef := hR 23 (by decide)
              have d24 : x24 = undef := hR 24 (by decide)
              have d25 : x25 = undef := hR 25 (by decide)
              have d26 : x26 = undef := hR 26 (by decide)
              have d27 : x27 = .bool false := hR 27 (by decide)
              have d28 : x28 = .bool false := hR 28 (by decide)
              clear hR
              subst d0
              subst d1
              subst d2
              subst d3
              subst d4
              subst d5
              subst d6
              subst d7
              subst d8
              subst d9
              subst d10
              subst d11
              subst d12
              subst d13
              subst d14
              subst d15
              subst d16
              subst d17
              subst d18
              subst d19
              subst d20
              subst d21
              subst d22
              subst d23
              subst d24
              subst d25
              subst d26
              subst d27
              subst d28
              try simp only [putAll, Act.put, List.setIfInBounds_toArray, List.set_cons_zero, List.set_cons_succ]
              have F3 := Lib.hid hS
              clear hS hb1 F2
              go_wp2
              go_roundw
              case rel => exact ⟨k + 1, by omega, by go_num, HF, F3⟩
              case measure => simp [intOf]; omega
          · skip
            have hkn := h3
            have h4 : (0 : Int) < (k : Int) := by omega
            by_cases h5 : x ≤ L
            · skip
              have HF : Hid (axB (-1) r xs = false) := Lib.hid (by rw [HAX.out, decide_eq_false (by omega : ¬ L < x), Bool.false_and, Bool.false_and])
              clear HAX
              have DX := Lib.hid (decide_eq_false (by omega : ¬ x < 0))
              have DR := Lib.hid (decide_eq_false (by omega : ¬ r ≤ x))
              have DK := Lib.hid (decide_eq_true (by omega : 0 < k))
              have DL := Lib.hid (decide_eq_true (by omega : x ≤ L))
              have h6 : (1 : Int) ≤ (k : Int) := by omega
              have DW : Hid (IntKind.i64.wrap ((k : Int) - 1) = (k : Int) - 1) := Lib.hid (by rw [IntKind.wrap_i64]; omega)
              have h7 : (k : Int) - 1 < (xs.length : Int) := by omega
              go_wp2
              refine wp_region_inv (w := wo) 29 (fun _ _ => True) (fun _ W => Fr w.heap.size w W [] [(.i64, (some ⟨b, off, none⟩), xs)] [] []) [] [(fun u _ => u = .slice (some ⟨b, off, none⟩) xs.length c), (fun u _ => u = .int .i64 (k : Int)), (fun u _ => u = .pointer (some ⟨b, off + k, none⟩)), (fun u _ => u = .int .i64 x), (fun u _ => u = .bool false), (fun u _ => u = .bool false), (fun u _ => u = .slice (some ⟨b, off, none⟩) xs.length c), (fun u _ => u = .int .i64 (k : Int)), (fun u _ => u = .pointer (some ⟨b, off + k, none⟩)), (fun u _ => u = .int .i64 x), (fun u _ => u = .int .i64 r), (fun u _ => u = .bool false), (fun u _ => u = .bool false), (fun u _ => u = .bool false), (fun u _ => u = .int .i64 (k : Int)), (fun u _ => u = .bool true), (fun u _ => u = .bool true), (fun u _ => u = .slice (some ⟨b, off, none⟩) xs.length c), (fun u _ => u = .int .i64 (k : Int)), (fun u _ => u = .pointer (some ⟨b, off + k, none⟩)), (fun u _ => u = .int .i64 x), (fun u _ => u = .slice (some ⟨b, off, none⟩) xs.length c), (fun u _ => u = .int .i64 (k : Int)), (fun u _ => u = .int .i64 ((k : Int) - 1)), (fun u _ => u = .pointer (some ⟨b, off + (k - 1), none⟩)), (fun u _ => u = .int .i64 L), (fun u _ => u = .bool true), (fun u _ => u = .bool true), (fun u _ => u = .bool true)] [some 12, some 13, some 14, some 15, some 16, some 17, some 18, some 19, some 20, some 21, some 22, some 23, some 24, some 25, some 26, some 27, some 28, some 29, some 30, some 31, some 32, some 33, some 34, some 35, some 36, some 37, some 38, some 39, some 40] (by kernel_rfl) (by kernel_rfl) rfl (by kernel_rfl) (by kernel_rfl) (by decide) (by decide) (fun _ _ => trivial) trivial F2.out.drew (BorneAll.at (.cons (borne_eq _) (.cons (borne_eq _) (.cons (borne_eq _) (.cons (borne_eq _) (.cons (borne_eq _) (.cons (borne_eq _) (.cons (borne_eq _) (.cons (borne_eq _) (.cons (borne_eq _) (.cons (borne_eq _) (.cons (borne_eq _) (.cons (borne_eq _) (.cons (borne_eq _) (.cons (borne_eq _) (.cons (borne_eq _) (.cons (borne_eq _) (.cons (borne_eq _) (.cons (borne_eq _) (.cons (borne_eq _) (.cons (borne_eq _) (.cons (borne_eq _) (.cons (borne_eq _) (.cons (borne_eq _) (.cons (borne_eq _) (.cons (borne_eq _) (.cons (borne_eq _) (.cons (borne_eq _) (.cons (borne_eq _) (.cons (borne_eq _) .nil)))))))))))))))))))))))))))))) (fun vs b hvl hvb => ?_)
              obtain ⟨x0, x1, x2, x3, x4, x5, x6, x7, x8, x9, x10, x11, x12, x13, x14, x15, x16, x17, x18, x19, x20, x21, x22, x23, x24, x25, x26, x27, x28, rfl⟩ : ∃ x0 x1 x2 x3 x4 x5 x6 x7 x8 x9 x10 x11 x12 x13 x14 x15 x16 x17 x18 x19 x20 x21 x22 x23 x24 x25 x26 x27 x28, vs = [x0, x1, x2, x3, x4, x5, x6, x7, x8, x9, x10, x11, x12, x13, x14, x15, x16, x17, x18, x19, x20, x21, x22, x23, x24, x25, x26, x27, x28] := lst29 hvl
              clear hvl
              simp only [putAll, Act.put, List.setIfInBounds_toArray, List.set_cons_zero, List.set_cons_succ] at hvb
              subst hvb
              refine ⟨(.snoc (.snoc (.snoc (.snoc (.snoc (.snoc (.snoc (.snoc (.snoc (.snoc (.snoc (.snoc (.snoc (.snoc (.snoc (.snoc (.snoc (.snoc (.snoc (.snoc (.snoc (.snoc (.snoc (.snoc (.snoc (.snoc (.snoc (.snoc (.snoc .zero (InvOb.intro (d := (some 12)) (r := fun u _ => u = .slice (some ⟨b, off, none⟩) xs.length c) 0 0 rfl rfl rfl (by kernel_rfl) (by kernel_rfl) rfl ?io4lowx0)) (InvOb.intro (d := (some 13)) (r := fun u _ => u = .int .i64 (k : Int)) 0 0 rfl rfl rfl (by kernel_rfl) (by kernel_rfl) rfl ?io4lowx1)) (InvOb.intro (d := (some 14)) (r := fun u _ => u = .pointer (some ⟨b, off + k, none⟩)) 0 0 rfl rfl rfl (by kernel_rfl) (by kernel_rfl) rfl ?io4lowx2)) (InvOb.intro (d := (some 15)) (r := fun u _ => u = .int .i64 x) 0 0 rfl rfl rfl (by kernel_rfl) (by kernel_rfl) rfl ?io4lowx3)) (InvOb.intro (d := (some 16)) (r := fun u _ => u = .bool false) 0 0 rfl rfl rfl (by kernel_rfl) (by kernel_rfl) rfl ?io4lowx4)) (InvOb.intro (d := (some 17)) (r := fun u _ => u = .bool false) 0 0 rfl rfl rfl (by kernel_rfl) (by kernel_rfl) rfl ?io4lowx5)) (InvOb.intro (d := (some 18)) (r := fun u _ => u = .slice (some ⟨b, off, none⟩) xs.length c) 0 0 rfl rfl rfl (by kernel_rfl) (by kernel_rfl) rfl ?io4lowx6)) (InvOb.intro (d := (some 19)) (r := fun u _ => u = .int .i64 (k : Int)) 0 0 rfl rfl rfl (by kernel_rfl) (by kernel_rfl) rfl ?io4lowx7)) (InvOb.intro (d := (some 20)) (r := fun u _ => u = .pointer (some ⟨b, off + k, none⟩)) 0 0 rfl rfl rfl (by kernel_rfl) (by kernel_rfl) rfl ?io4lowx8)) (InvOb.intro (d := (some 21)) (r := fun u _ => u = .int .i64 x) 0 0 rfl rfl rfl (by kernel_rfl) (by kernel_rfl) rfl ?io4lowx9)) (InvOb.intro (d := (some 22)) (r := fun u _ => u = .int .i64 r) 0 0 rfl rfl rfl (by kernel_rfl) (by kernel_rfl) rfl ?io4lowx10)) (InvOb.intro (d := (some 23)) (r := fun u _ => u = .bool false) 0 0 rfl rfl rfl (by kernel_rfl) (by kernel_rfl) rfl ?io4lowx11)) (InvOb.intro (d := (some 24)) (r := fun u _ => u = .bool false) 0 0 rfl rfl rfl (by kernel_rfl) (by kernel_rfl) rfl ?io4lowx12)) (InvOb.intro (d := (some 25)) (r := fun u _ => u = .bool false) 0 0 rfl rfl rfl (by kernel_rfl) (by kernel_rfl) rfl ?io4lowx13)) (InvOb.intro (d := (some 26)) (r := fun u _ => u = .int .i64 (k : Int)) 0 0 rfl rfl rfl (by kernel_rfl) (by kernel_rfl) rfl ?io4lowx14)) (InvOb.intro (d := (some 27)) (r := fun u _ => u = .bool true) 0 0 rfl rfl rfl (by kernel_rfl) (by kernel_rfl) rfl ?io4lowx15)) (InvOb.intro (d := (some 28)) (r := fun u _ => u = .bool true) 0 0 rfl rfl rfl (by kernel_rfl) (by kernel_rfl) rfl ?io4lowx16)) (InvOb.intro (d := (some 29)) (r := fun u _ => u = .slice (some ⟨b, off, none⟩) xs.length c) 0 0 rfl rfl rfl (by kernel_rfl) (by kernel_rfl) rfl ?io4lowx17)) (InvOb.intro (d := (some 30)) (r := fun u _ => u = .int .i64 (k : Int)) 0 0 rfl rfl rfl (by kernel_rfl) (by kernel_rfl) rfl ?io4lowx18)) (InvOb.intro (d := (some 31)) (r := fun u _ => u = .pointer (some ⟨b, off + k, none⟩)) 0 0 rfl rfl rfl (by kernel_rfl) (by kernel_rfl) rfl ?io4lowx19)) (InvOb.intro (d := (some 32)) (r := fun u _ => u = .int .i64 x) 0 0 rfl rfl rfl (by kernel_rfl) (by kernel_rfl) rfl ?io4lowx20)) (InvOb.intro (d := (some 33)) (r := fun u _ => u = .slice (some ⟨b, off, none⟩) xs.length c) 0 0 rfl rfl rfl (by kernel_rfl) (by kernel_rfl) rfl ?io4lowx21)) (InvOb.intro (d := (some 34)) (r := fun u _ => u = .int .i64 (k : Int)) 0 0 rfl rfl rfl (by kernel_rfl) (by kernel_rfl) rfl ?io4lowx22)) (InvOb.intro (d := (some 35)) (r := fun u _ => u = .int .i64 ((k : Int) - 1)) 0 0 rfl rfl rfl (by kernel_rfl) (by kernel_rfl) rfl ?io4lowx23)) (InvOb.intro (d := (some 36)) (r := fun u _ => u = .pointer (some ⟨b, off + (k - 1), none⟩)) 0 0 rfl rfl rfl (by kernel_rfl) (by kernel_rfl) rfl ?io4lowx24)) (InvOb.intro (d := (some 37)) (r := fun u _ => u = .int .i64 L) 0 0 rfl rfl rfl (by kernel_rfl) (by kernel_rfl) rfl ?io4lowx25)) (InvOb.intro (d := (some 38)) (r := fun u _ => u = .bool true) 0 0 rfl rfl rfl (by kernel_rfl) (by kernel_rfl) rfl ?io4lowx26)) (InvOb.intro (d := (some 39)) (r := fun u _ => u = .bool true) 0 0 rfl rfl rfl (by kernel_rfl) (by kernel_rfl) rfl ?io4lowx27)) (InvOb.intro (d := (some 40)) (r := fun u _ => u = .bool true) 0 0 rfl rfl rfl (by kernel_rfl) (by kernel_rfl) rfl ?io4lowx28)), ?iend4low⟩
              case io4lowx0 =>
                intro k1 w1 hk0 hk1 hb1 hS hd KK hK
                clear hd
                simp only [Act.put, List.setIfInBounds_toArray, List.set_cons_zero, List.set_cons_succ] at hK
                go_simp
                first | exact hK.out _ _ trivial hS rfl | (have hk := hK.out _ _ trivial hS rfl; revert hk; go_simp)
              case io4lowx1 =>
                intro k1 w1 hk0 hk1 hb1 hS hd KK hK
                clear hd
                simp only [Act.put, List.setIfInBounds_toArray, List.set_cons_zero, List.set_cons_succ] at hK
                go_simp
                first | exact hK.out _ _ trivial hS rfl | (have hk := hK.out _ _ trivial hS rfl; revert hk; go_simp)
              case io4lowx2 =>
                intro k1 w1 hk0 hk1 hb1 hS hd KK hK
                have d0 : x0 = .slice (some ⟨b, off, none⟩) xs.length c := hd 0 (by kernel_rfl)
                have d1 : x1 = .int .i64 (k : Int) := hd 1 (by kernel_rfl)
                clear hd
                subst d0
                subst d1
                simp only [Act.put, List.setIfInBounds_toArray, List.set_cons_zero, List.set_cons_succ] at hK
                go_simp
                first | exact hK.out _ _ trivial hS rfl | (have hk := hK.out _ _ trivial hS rfl; revert hk; go_simp)
              case io4lowx3 =>
                intro k1 w1 hk0 hk1 hb1 hS hd KK hK
                have d2 : x2 = .pointer (some ⟨b, off + k, none⟩) := hd 2 (by kernel_rfl)
                clear hd
                subst d2
                obtain ⟨b9, o9, he, _, hcx⟩ := (hS.l 0 rfl).cell k hlt
                cases he
                rw [HX.out] at hcx
                simp only [Act.put, List.setIfInBounds_toArray, List.set_cons_zero, List.set_cons_succ] at hK
                go_simp
                first | exact hK.out _ _ trivial hS rfl | (have hk := hK.out _ _ trivial hS rfl; revert hk; go_simp)
              case io4lowx4 =>
                intro k1 w1 hk0 hk1 hb1 hS hd KK hK
                have d3 : x3 = .int .i64 x := hd 3 (by kernel_rfl)
                clear hd
                subst d3
                have dx := DX.out
                simp only [Act.put, List.setIfInBounds_toArray, List.set_cons_zero, List.set_cons_succ] at hK
                go_simp
                first | exact hK.out _ _ trivial hS rfl | (have hk := hK.out _ _ trivial hS rfl; revert hk; go_simp)
              case io4lowx5 =>
                intro k1 w1 hk0 hk1 hb1 hS hd KK hK
                have d4 : x4 = .bool false := hd 4 (by kernel_rfl)
                clear hd
                subst d4
                simp only [Act.put, List.setIfInBounds_toArray, List.set_cons_zero, List.set_cons_succ] at hK
                go_simp
                first | exact hK.out _ _ trivial hS rfl | (have hk := hK.out _ _ trivial hS rfl; revert hk; go_simp)
              case io4lowx6 =>
                intro k1 w1 hk0 hk1 hb1 hS hd KK hK
                have d5 : x5 = .bool false := hd 5 (by kernel_rfl)
                clear hd
                subst d5
                simp only [Act.put, List.setIfInBounds_toArray, List.set_cons_zero, List.set_cons_succ] at hK
                go_simp
                first | exact hK.out _ _ trivial hS rfl | (have hk := hK.out _ _ trivial hS rfl; revert hk; go_simp)
              case io4lowx7 =>
                intro k1 w1 hk0 hk1 hb1 hS hd KK hK
                have d5 : x5 = .bool false := hd 5 (by kernel_rfl)
                clear hd
                subst d5
                simp only [Act.put, List.setIfInBounds_toArray, List.set_cons_zero, List.set_cons_succ] at hK
                go_simp
                first | exact hK.out _ _ trivial hS rfl | (have hk := hK.out _ _ trivial hS rfl; revert hk; go_simp)
              case io4lowx8 =>
                intro k1 w1 hk0 hk1 hb1 hS hd KK hK
                have d5 : x5 = .bool false := hd 5 (by kernel_rfl)
                have d6 : x6 = .slice (some ⟨b, off, none⟩) xs.length c := hd 6 (by kernel_rfl)
                have d7 : x7 = .int .i64 (k : Int) := hd 7 (by kernel_rfl)
                clear hd
                subst d5
                subst d6
                subst d7
                simp only [Act.put, List.setIfInBounds_toArray, List.set_cons_zero, List.set_cons_succ] at hK
                go_simp
                first | exact hK.out _ _ trivial hS rfl | (have hk := hK.out _ _ trivial hS rfl; revert hk; go_simp)
              case io4lowx9 =>
                intro k1 w1 hk0 hk1 hb1 hS hd KK hK
                have d5 : x5 = .bool false := hd 5 (by kernel_rfl)
                have d8 : x8 = .pointer (some ⟨b, off + k, none⟩) := hd 8 (by kernel_rfl)
                clear hd
                subst d5
                subst d8
                obtain ⟨b9, o9, he, _, hcx⟩ := (hS.l 0 rfl).cell k hlt
                cases he
                rw [HX.out] at hcx
                simp only [Act.put, List.setIfInBounds_toArray, List.set_cons_zero, List.set_cons_succ] at hK
                go_simp
                first | exact hK.out _ _ trivial hS rfl | (have hk := hK.out _ _ trivial hS rfl; revert hk; go_simp)
              case io4lowx10 =>
                intro k1 w1 hk0 hk1 hb1 hS hd KK hK
                have d5 : x5 = .bool false := hd 5 (by kernel_rfl)
                clear hd
                subst d5
                simp only [Act.put, List.setIfInBounds_toArray, List.set_cons_zero, List.set_cons_succ] at hK
                go_simp
                first | exact hK.out _ _ trivial hS rfl | (have hk := hK.out _ _ trivial hS rfl; revert hk; go_simp)
              case io4lowx11 =>
                intro k1 w1 hk0 hk1 hb1 hS hd KK hK
                have d5 : x5 = .bool false := hd 5 (by kernel_rfl)
                have d9 : x9 = .int .i64 x := hd 9 (by kernel_rfl)
                have d10 : x10 = .int .i64 r := hd 10 (by kernel_rfl)
                clear hd
                subst d5
                subst d9
                subst d10
                have dx := DR.out
                simp only [Act.put, List.setIfInBounds_toArray, List.set_cons_zero, List.set_cons_succ] at hK
                go_simp
                first | exact hK.out _ _ trivial hS rfl | (have hk := hK.out _ _ trivial hS rfl; revert hk; go_simp)
              case io4lowx12 =>
                intro k1 w1 hk0 hk1 hb1 hS hd KK hK
                have d5 : x5 = .bool false := hd 5 (by kernel_rfl)
                have d11 : x11 = .bool false := hd 11 (by kernel_rfl)
                clear hd
                subst d5
                subst d11
                simp only [Act.put, List.setIfInBounds_toArray, List.set_cons_zero, List.set_cons_succ] at hK
                go_simp
                first | exact hK.out _ _ trivial hS rfl | (have hk := hK.out _ _ trivial hS rfl; revert hk; go_simp)
              case io4lowx13 =>
                intro k1 w1 hk0 hk1 hb1 hS hd KK hK
                have d5 : x5 = .bool false := hd 5 (by kernel_rfl)
                have d12 : x12 = .bool false := hd 12 (by kernel_rfl)
                clear hd
                subst d5
                subst d12
                simp only [Act.put, List.setIfInBounds_toArray, List.set_cons_zero, List.set_cons_succ] at hK
                go_simp
                first | exact hK.out _ _ trivial hS rfl | (have hk := hK.out _ _ trivial hS rfl; revert hk; go_simp)
              case io4lowx14 =>
                intro k1 w1 hk0 hk1 hb1 hS hd KK hK
                have d13 : x13 = .bool false := hd 13 (by kernel_rfl)
                clear hd
                subst d13
                simp only [Act.put, List.setIfInBounds_toArray, List.set_cons_zero, List.set_cons_succ] at hK
                go_simp
                first | exact hK.out _ _ trivial hS rfl | (have hk := hK.out _ _ trivial hS rfl; revert hk; go_simp)
              case io4lowx15 =>
                intro k1 w1 hk0 hk1 hb1 hS hd KK hK
                have d13 : x13 = .bool false := hd 13 (by kernel_rfl)
                have d14 : x14 = .int .i64 (k : Int) := hd 14 (by kernel_rfl)
                clear hd
                subst d13
                subst d14
                have dx := DK.out
                simp only [Act.put, List.setIfInBounds_toArray, List.set_cons_zero, List.set_cons_succ] at hK
                go_simp
                first | exact hK.out _ _ trivial hS rfl | (have hk := hK.out _ _ trivial hS rfl; revert hk; go_simp)
              case io4lowx16 =>
                intro k1 w1 hk0 hk1 hb1 hS hd KK hK
                have d13 : x13 = .bool false := hd 13 (by kernel_rfl)
                have d15 : x15 = .bool true := hd 15 (by kernel_rfl)
                clear hd
                subst d13
                subst d15
                simp only [Act.put, List.setIfInBounds_toArray, List.set_cons_zero, List.set_cons_succ] at hK
                go_simp
                first | exact hK.out _ _ trivial hS rfl | (have hk := hK.out _ _ trivial hS rfl; revert hk; go_simp)
              case io4lowx17 =>
                intro k1 w1 hk0 hk1 hb1 hS hd KK hK
                have d16 : x16 = .bool true := hd 16 (by kernel_rfl)
                clear hd
                subst d16
                simp only [Act.put, List.setIfInBounds_toArray, List.set_cons_zero, List.set_cons_succ] at hK
                go_simp
                first | exact hK.out _ _ trivial hS rfl | (have hk := hK.out _ _ trivial hS rfl; revert hk; go_simp)
              case io4lowx18 =>
                intro k1 w1 hk0 hk1 hb1 hS hd KK hK
                have d16 : x16 = .bool true := hd 16 (by kernel_rfl)
                clear hd
                subst d16
                simp only [Act.put, List.setIfInBounds_toArray, List.set_cons_zero, List.set_cons_succ] at hK
                go_simp
                first | exact hK.out _ _ trivial hS rfl | (have hk := hK.out _ _ trivial hS rfl; revert hk; go_simp)
              case io4lowx19 =>
                intro k1 w1 hk0 hk1 hb1 hS hd KK hK
                have d16 : x16 = .bool true := hd 16 (by kernel_rfl)
                have d17 : x17 = .slice (some ⟨b, off, none⟩) xs.length c := hd 17 (by kernel_rfl)
                have d18 : x18 = .int .i64 (k : Int) := hd 18 (by kernel_rfl)
                clear hd
                subst d16
                subst d17
                subst d18
                simp only [Act.put, List.setIfInBounds_toArray, List.set_cons_zero, List.set_cons_succ] at hK
                go_simp
                first | exact hK.out _ _ trivial hS rfl | (have hk := hK.out _ _ trivial hS rfl; revert hk; go_simp)
              case io4lowx20 =>
                intro k1 w1 hk0 hk1 hb1 hS hd KK hK
                have d16 : x16 = .bool true := hd 16 (by kernel_rfl)
                have d19 : x19 = .pointer (some ⟨b, off + k, none⟩) := hd 19 (by kernel_rfl)
                clear hd
                subst d16
                subst d19
                obtain ⟨b9, o9, he, _, hcx⟩ := (hS.l 0 rfl).cell k hlt
                cases he
                rw [HX.out] at hcx
                simp only [Act.put, List.setIfInBounds_toArray, List.set_cons_zero, List.set_cons_succ] at hK
                go_simp
                first | exact hK.out _ _ trivial hS rfl | (have hk := hK.out _ _ trivial hS rfl; revert hk; go_simp)
              case io4lowx21 =>
                intro k1 w1 hk0 hk1 hb1 hS hd KK hK
                have d16 : x16 = .bool true := hd 16 (by kernel_rfl)
                clear hd
                subst d16
                simp only [Act.put, List.setIfInBounds_toArray, List.set_cons_zero, List.set_cons_succ] at hK
                go_simp
                first | exact hK.out _ _ trivial hS rfl | (have hk := hK.out _ _ trivial hS rfl; revert hk; go_simp)
              case io4lowx22 =>
                intro k1 w1 hk0 hk1 hb1 hS hd KK hK
                have d16 : x16 = .bool true := hd 16 (by kernel_rfl)
                clear hd
                subst d16
                simp only [Act.put, List.setIfInBounds_toArray, List.set_cons_zero, List.set_cons_succ] at hK
                go_simp
                first | exact hK.out _ _ trivial hS rfl | (have hk := hK.out _ _ trivial hS rfl; revert hk; go_simp)
              case io4lowx23 =>
                intro k1 w1 hk0 hk1 hb1 hS hd KK hK
                have d16 : x16 = .bool true := hd 16 (by kernel_rfl)
                have d22 : x22 = .int .i64 (k : Int) := hd 22 (by kernel_rfl)
                clear hd
                subst d16
                subst d22
                have dx := DW.out
                simp only [Act.put, List.setIfInBounds_toArray, List.set_cons_zero, List.set_cons_succ] at hK
                go_simp
                first | exact hK.out _ _ trivial hS rfl | (have hk := hK.out _ _ trivial hS rfl; revert hk; go_simp)
              case io4lowx24 =>
                intro k1 w1 hk0 hk1 hb1 hS hd KK hK
                have d16 : x16 = .bool true := hd 16 (by kernel_rfl)
                have d21 : x21 = .slice (some ⟨b, off, none⟩) xs.length c := hd 21 (by kernel_rfl)
                have d23 : x23 = .int .i64 ((k : Int) - 1) := hd 23 (by kernel_rfl)
                clear hd
                subst d16
                subst d21
                subst d23
                simp only [Act.put, List.setIfInBounds_toArray, List.set_cons_zero, List.set_cons_succ] at hK
                go_simp
                first | exact hK.out _ _ trivial hS rfl | (have hk := hK.out _ _ trivial hS rfl; revert hk; go_simp)
              case io4lowx25 =>
                intro k1 w1 hk0 hk1 hb1 hS hd KK hK
                have d16 : x16 = .bool true := hd 16 (by kernel_rfl)
                have d24 : x24 = .pointer (some ⟨b, off + (k - 1), none⟩) := hd 24 (by kernel_rfl)
                clear hd
                subst d16
                subst d24
                obtain ⟨b9, o9, he, _, hcx⟩ := (hS.l 0 rfl).cell (k - 1) (by omega)
                cases he
                rw [HL0.out hkn] at hcx
                simp only [Act.put, List.setIfInBounds_toArray, List.set_cons_zero, List.set_cons_succ] at hK
                go_simp
                first | exact hK.out _ _ trivial hS rfl | (have hk := hK.out _ _ trivial hS rfl; revert hk; go_simp)
              case io4lowx26 =>
                intro k1 w1 hk0 hk1 hb1 hS hd KK hK
                have d16 : x16 = .bool true := hd 16 (by kernel_rfl)
                have d20 : x20 = .int .i64 x := hd 20 (by kernel_rfl)
                have d25 : x25 = .int .i64 L := hd 25 (by kernel_rfl)
                clear hd
                subst d16
                subst d20
                subst d25
                have dx := DL.out
                simp only [Act.put, List.setIfInBounds_toArray, List.set_cons_zero, List.set_cons_succ] at hK
                go_simp
                first | exact hK.out _ _ trivial hS rfl | (have hk := hK.out _ _ trivial hS rfl; revert hk; go_simp)
              case io4lowx27 =>
                intro k1 w1 hk0 hk1 hb1 hS hd KK hK
                have d13 : x13 = .bool false := hd 13 (by kernel_rfl)
                have d16 : x16 = .bool true := hd 16 (by kernel_rfl)
                have d26 : x26 = .bool true := hd 26 (by kernel_rfl)
                clear hd
                subst d13
                subst d16
                subst d26
                simp only [Act.put, List.setIfInBounds_toArray, List.set_cons_zero, List.set_cons_succ] at hK
                go_simp
                first | exact hK.out _ _ trivial hS rfl | (have hk := hK.out _ _ trivial hS rfl; revert hk; go_simp)
              case io4lowx28 =>
                intro k1 w1 hk0 hk1 hb1 hS hd KK hK
                have d13 : x13 = .bool false := hd 13 (by kernel_rfl)
                have d27 : x27 = .bool true := hd 27 (by kernel_rfl)
                clear hd
                subst d13
                subst d27
                simp only [Act.put, List.setIfInBounds_toArray, List.set_cons_zero, List.set_cons_succ] at hK
                go_simp
                first | exact hK.out _ _ trivial hS rfl | (have hk := hK.out _ _ trivial hS rfl; revert hk; go_simp)
              case iend4low =>
                intro w1 hb1 hS hR
                have d0 : x0 = .slice (some ⟨b, off, none⟩) xs.length c := hR 0 (by decide)
                have d1 : x1 = .int .i64 (k : Int) := hR 1 (by decide)
                have d2 : x2 = .pointer (some ⟨b, off + k, none⟩) := hR 2 (by decide)
                have d3 : x3 = .int .i64 x := hR 3 (by decide)
                have d4 : x4 = .bool false := hR 4 (by decide)
                have d5 : x5 = .bool false := hR 5 (by decide)
                have d6 : x6 = .slice (some ⟨b, off, none⟩) xs.length c := hR 6 (by decide)
                have d7 : x7 = .int .i64 (k : Int) := hR 7 (by decide)
                have d8 : x8 = .pointer (some ⟨b, off + k, none⟩) := hR 8 (by decide)
                have d9 : x9 = .int .i64 x := hR 9 (by decide)
                have d10 : x10 = .int .i64 r := hR 10 (by decide)
                have d11 : x11 = .bool false := hR 11 (by decide)
                have d12 : x12 = .bool false := hR 12 (by decide)
                have d13 : x13 = .bool false := hR 13 (by decide)
                have d14 : x14 = .int .i64 (k : Int) := hR 14 (by decide)
                have d15 : x15 = .bool true := hR 15 (by decide)
                have d16 : x16 = .bool true := hR 16 (by decide)
                have d17 : x17 = .slice (some ⟨b, off, none⟩) xs.length c := hR 17 (by decide)
                have d18 : x18 = .int .i64 (k : Int) := hR 18 (by decide)
                have d19 : x19 = .pointer (some ⟨b, off + k, none⟩) := hR 19 (by decide)
                have d20 : x20 = .int .i64 x := hR 20 (by decide)
                have d21 : x21 = .slice (some ⟨b, off, none⟩) xs.length c := hR 21 (by decide)
                have d22 : x22 = .int .i64 (k : Int) := hR 22 (by decide)
                have d23 : x23 = .int .i64 ((k : Int) - 1) := hR 23 (by decide)
                have d24 : x24 = .pointer (some ⟨b, off + (k - 1), none⟩) := hR 24 (by decide)
                have d25 : x25 = .int .i64 L := hR 25 (by decide)
                have d26 : x26 = .bool true := hR 26 (by decide)
                have d27 : x27 = .bool true := hR 27 (by decide)
                have d28 : x28 = .bool true := hR 28 (by decide)
                clear hR
                subst d0
                subst d1
                subst d2
                subst d3
                subst d4
                subst d5
                subst d6
                subst d7
                subst d8
                subst d9
                subst d10
                subst d11
                subst d12
                subst d13
                subst d14
                subst d15
                subst d16
                subst d17
                subst d18
                subst d19
                subst d20
                subst d21
                subst d22
                subst d23
                subst d24
                subst d25
                subst d26
                subst d27
                subst d28
                try simp only [putAll, Act.put, List.setIfInBounds_toArray, List.set_cons_zero, List.set_cons_succ]
                have F3 := Lib.hid hS
                clear hS hb1 F2
                go_wp2
                go_ret
                exact ⟨by rw [HF.out]; rfl, F3.out.bel⟩
            · skip
              have HF : Hid (axB (-1) r xs = axB (lastJ xs (k + 1)) r (xs.drop (k + 1)) ∧ -1 ≤ lastJ xs (k + 1)) := Lib.hid (by rw [HAX.out, HLJ.out, decide_eq_true (by omega : L < x), decide_eq_true (by omega : x < r)]; exact ⟨rfl, by omega⟩)
              clear HAX
              have DX := Lib.hid (decide_eq_false (by omega : ¬ x < 0))
              have DR := Lib.hid (decide_eq_false (by omega : ¬ r ≤ x))
              have DK := Lib.hid (decide_eq_true (by omega : 0 < k))
              have DL := Lib.hid (decide_eq_false (by omega : ¬ x ≤ L))
              have h6 : (1 : Int) ≤ (k : Int) := by omega
              have DW : Hid (IntKind.i64.wrap ((k : Int) - 1) = (k : Int) - 1) := Lib.hid (by rw [IntKind.wrap_i64]; omega)
              have h7 : (k : Int) - 1 < (xs.length : Int) := by omega
              go_wp2
              refine wp_region_inv (w := wo) 29 (fun _ _ => True) (fun _ W => Fr w.heap.size w W [] [(.i64, (some ⟨b, off, none⟩), xs)] [] []) [] [(fun u _ => u = .slice (some ⟨b, off, none⟩) xs.length c), (fun u _ => u = .int .i64 (k : Int)), (fun u _ => u = .pointer (some ⟨b, off + k, none⟩)), (fun u _ => u = .int .i64 x), (fun u _ => u = .bool false), (fun u _ => u = .bool false), (fun u _ => u = .slice (some ⟨b, off, none⟩) xs.length c), (fun u _ => u = .int .i64 (k : Int)), (fun u _ => u = .pointer (some ⟨b, off + k, none⟩)), (fun u _ => u = .int .i64 x), (fun u _ => u = .int .i64 r), (fun u _ => u = .bool false), (fun u _ => u = .bool false), (fun u _ => u = .bool false), (fun u _ => u = .int .i64 (k : Int)), (fun u _ => u = .bool true), (fun u _ => u = .bool true), (fun u _ => u = .slice (some ⟨b, off, none⟩) xs.length c), (fun u _ => u = .int .i64 (k : Int)), (fun u _ => u = .pointer (some ⟨b, off + k, none⟩)), (fun u _ => u = .int .i64 x), (fun u _ => u = .slice (some ⟨b, off, none⟩) xs.length c), (fun u _ => u = .int .i64 (k : Int)), (fun u _ => u = .int .i64 ((k : Int) - 1)), (fun u _ => u = .pointer (some ⟨b, off + (k - 1), none⟩)), (fun u _ => u = .int .i64 L), (fun u _ => u = .bool false), (fun u _ => u = .bool false), (fun u _ => u = .bool false)] [some 12, some 13, some 14, some 15, some 16, some 17, some 18, some 19, some 20, some 21, some 22, some 23, some 24, some 25, some 26, some 27, some 28, some 29, some 30, some 31, some 32, some 33, some 34, some 35, some 36, some 37, some 38, some 39, some 40] (by kernel_rfl) (by kernel_rfl) rfl (by kernel_rfl) (by kernel_rfl) (by decide) (by decide) (fun _ _ => trivial) trivial F2.out.drew (BorneAll.at (.cons (borne_eq _) (.cons (borne_eq _) (.cons (borne_eq _) (.cons (borne_eq _) (.cons (borne_eq _) (.cons (borne_eq _) (.cons (borne_eq _) (.cons (borne_eq _) (.cons (borne_eq _) (.cons (borne_eq _) (.cons (borne_eq _) (.cons (borne_eq _) (.cons (borne_eq _) (.cons (borne_eq _) (.cons (borne_eq _) (.cons (borne_eq _) (.cons (borne_eq _) (.cons (borne_eq _) (.cons (borne_eq _) (.cons (borne_eq _) (.cons (borne_eq _) (.cons (borne_eq _) (.cons (borne_eq _) (.cons (borne_eq _) (.cons (borne_eq _) (.cons (borne_eq _) (.cons (borne_eq _) (.cons (borne_eq _) (.cons (borne_eq _) .nil)))))))))))))))))))))))))))))) (fun vs b hvl hvb => ?_)
              obtain ⟨x0, x1, x2, x3, x4, x5, x6, x7, x8, x9, x10, x11, x12, x13, x14, x15, x16, x17, x18, x19, x20, x21, x22, x23, x24, x25, x26, x27, x28, rfl⟩ : ∃ x0 x1 x2 x3 x4 x5 x6 x7 x8 x9 x10 x11 x12 x13 x14 x15 x16 x17 x18 x19 x20 x21 x22 x23 x24 x25 x26 x27 x28, vs = [x0, x1, x2, x3, x4, x5, x6, x7, x8, x9, x10, x11, x12, x13, x14, x15, x16, x17, x18, x19, x20, x21, x22, x23, x24, x25, x26, x27, x28] := lst29 hvl
              clear hvl
              simp only [putAll, Act.put, List.setIfInBounds_toArray, List.set_cons_zero, List.set_cons_succ] at hvb
              subst hvb
              refine ⟨(.snoc (.snoc (.snoc (.snoc (.snoc (.snoc (.snoc (.snoc (.snoc (.snoc (.snoc (.snoc (.snoc (.snoc (.snoc (.snoc (.snoc (.snoc (.snoc (.snoc (.snoc (.snoc (.snoc (.snoc (.snoc (.snoc (.snoc (.snoc (.snoc .zero (InvOb.intro (d := (some 12)) (r := fun u _ => u = .slice (some ⟨b, off, none⟩) xs.length c) 0 0 rfl rfl rfl (by kernel_rfl) (by kernel_rfl) rfl ?io4onx0)) (InvOb.intro (d := (some 13)) (r := fun u _ => u = .int .i64 (k : Int)) 0 0 rfl rfl rfl (by kernel_rfl) (by kernel_rfl) rfl ?io4onx1)) (InvOb.intro (d := (some 14)) (r := fun u _ => u = .pointer (some ⟨b, off + k, none⟩)) 0 0 rfl rfl rfl (by kernel_rfl) (by kernel_rfl) rfl ?io4onx2)) (InvOb.intro (d := (some 15)) (r := fun u _ => u = .int .i64 x) 0 0 rfl rfl rfl (by kernel_rfl) (by kernel_rfl) rfl ?io4onx3)) (InvOb.intro (d := (some 16)) (r := fun u _ => u = .bool false) 0 0 rfl rfl rfl (by kernel_rfl) (by kernel_rfl) rfl ?io4onx4)) (InvOb.intro (d := (some 17)) (r := fun u _ => u = .bool false) 0 0 rfl rfl rfl (by kernel_rfl) (by kernel_rfl) rfl ?io4onx5)) (InvOb.intro (d := (some 18)) (r := fun u _ => u = .slice (some ⟨b, off, none⟩) xs.length c) 0 0 rfl rfl rfl (by kernel_rfl) (by kernel_rfl) rfl ?io4onx6)) (InvOb.intro (d := (some 19)) (r := fun u _ => u = .int .i64 (k : Int)) 0 0 rfl rfl rfl (by kernel_rfl) (by kernel_rfl) rfl ?io4onx7)) (InvOb.intro (d := (some 20)) (r := fun u _ => u = .pointer (some ⟨b, off + k, none⟩)) 0 0 rfl rfl rfl (by kernel_rfl) (by kernel_rfl) rfl ?io4onx8)) (InvOb.intro (d := (some 21)) (r := fun u _ => u = .int .i64 x) 0 0 rfl rfl rfl (by kernel_rfl) (by kernel_rfl) rfl ?io4onx9)) (InvOb.intro (d := (some 22)) (r := fun u _ => u = .int .i64 r) 0 0 rfl rfl rfl (by kernel_rfl) (by kernel_rfl) rfl ?io4onx10)) (InvOb.intro (d := (some 23)) (r := fun u _ => u = .bool false) 0 0 rfl rfl rfl (by kernel_rfl) (by kernel_rfl) rfl ?io4onx11)) (InvOb.intro (d := (some 24)) (r := fun u _ => u = .bool false) 0 0 rfl rfl rfl (by kernel_rfl) (by kernel_rfl) rfl ?io4onx12)) (InvOb.intro (d := (some 25)) (r := fun u _ => u = .bool false) 0 0 rfl rfl rfl (by kernel_rfl) (by kernel_rfl) rfl ?io4onx13)) (InvOb.intro (d := (some 26)) (r := fun u _ => u = .int .i64 (k : Int)) 0 0 rfl rfl rfl (by kernel_rfl) (by kernel_rfl) rfl ?io4onx14)) (InvOb.intro (d := (some 27)) (r := fun u _ => u = .bool true) 0 0 rfl rfl rfl (by kernel_rfl) (by kernel_rfl) rfl ?io4onx15)) (InvOb.intro (d := (some 28)) (r := fun u _ => u = .bool true) 0 0 rfl rfl rfl (by kernel_rfl) (by kernel_rfl) rfl ?io4onx16)) (InvOb.intro (d := (some 29)) (r := fun u _ => u = .slice (some ⟨b, off, none⟩) xs.length c) 0 0 rfl rfl rfl (by kernel_rfl) (by kernel_rfl) rfl ?io4onx17)) (InvOb.intro (d := (some 30)) (r := fun u _ => u = .int .i64 (k : Int)) 0 0 rfl rfl rfl (by kernel_rfl) (by kernel_rfl) rfl ?io4onx18)) (InvOb.intro (d := (some 31)) (r := fun u _ => u = .pointer (some ⟨b, off + k, none⟩)) 0 0 rfl rfl rfl (by kernel_rfl) (by kernel_rfl) rfl ?io4onx19)) (InvOb.intro (d := (some 32)) (r := fun u _ => u = .int .i64 x) 0 0 rfl rfl rfl (by kernel_rfl) (by kernel_rfl) rfl ?io4onx20)) (InvOb.intro (d := (some 33)) (r := fun u _ => u = .slice (some ⟨b, off, none⟩) xs.length c) 0 0 rfl rfl rfl (by kernel_rfl) (by kernel_rfl) rfl ?io4onx21)) (InvOb.intro (d := (some 34)) (r := fun u _ => u = .int .i64 (k : Int)) 0 0 rfl rfl rfl (by kernel_rfl) (by kernel_rfl) rfl ?io4onx22)) (InvOb.intro (d := (some 35)) (r := fun u _ => u = .int .i64 ((k : Int) - 1)) 0 0 rfl rfl rfl (by kernel_rfl) (by kernel_rfl) rfl ?io4onx23)) (InvOb.intro (d := (some 36)) (r := fun u _ => u = .pointer (some ⟨b, off + (k - 1), none⟩)) 0 0 rfl rfl rfl (by kernel_rfl) (by kernel_rfl) rfl ?io4onx24)) (InvOb.intro (d := (some 37)) (r := fun u _ => u = .int .i64 L) 0 0 rfl rfl rfl (by kernel_rfl) (by kernel_rfl) rfl ?io4onx25)) (InvOb.intro (d := (some 38)) (r := fun u _ => u = .bool false) 0 0 rfl rfl rfl (by kernel_rfl) (by kernel_rfl) rfl ?io4onx26)) (InvOb.intro (d := (some 39)) (r := fun u _ => u = .bool false) 0 0 rfl rfl rfl (by kernel_rfl) (by kernel_rfl) rfl ?io4onx27)) (InvOb.intro (d := (some 40)) (r := fun u _ => u = .bool false) 0 0 rfl rfl rfl (by kernel_rfl) (by kernel_rfl) rfl ?io4onx28)), ?iend4on⟩
              case io4onx0 =>
                intro k1 w1 hk0 hk1 hb1 hS hd KK hK
                clear hd
                simp only [Act.put, List.setIfInBounds_toArray, List.set_cons_zero, List.set_cons_succ] at hK
                go_simp
                first | exact hK.out _ _ trivial hS rfl | (have hk := hK.out _ _ trivial hS rfl; revert hk; go_simp)
              case io4onx1 =>
                intro k1 w1 hk0 hk1 hb1 hS hd KK hK
                clear hd
                simp only [Act.put, List.setIfInBounds_toArray, List.set_cons_zero, List.set_cons_succ] at hK
                go_simp
                first | exact hK.out _ _ trivial hS rfl | (have hk := hK.out _ _ trivial hS rfl; revert hk; go_simp)
              case io4onx2 =>
                intro k1 w1 hk0 hk1 hb1 hS hd KK hK
                have d0 : x0 = .slice (some ⟨b, off, none⟩) xs.length c := hd 0 (by kernel_rfl)
                have d1 : x1 = .int .i64 (k : Int) := hd 1 (by kernel_rfl)
                clear hd
                subst d0
                subst d1
                simp only [Act.put, List.setIfInBounds_toArray, List.set_cons_zero, List.set_cons_succ] at hK
                go_simp
                first | exact hK.out _ _ trivial hS rfl | (have hk := hK.out _ _ trivial hS rfl; revert hk; go_simp)
              case io4onx3 =>
                intro k1 w1 hk0 hk1 hb1 hS hd KK hK
                have d2 : x2 = .pointer (some ⟨b, off + k, none⟩) := hd 2 (by kernel_rfl)
                clear hd
                subst d2
                obtain ⟨b9, o9, he, _, hcx⟩ := (hS.l 0 rfl).cell k hlt
                cases he
                rw [HX.out] at hcx
                simp only [Act.put, List.setIfInBounds_toArray, List.set_cons_zero, List.set_cons_succ] at hK
                go_simp
                first | exact hK.out _ _ trivial hS rfl | (have hk := hK.out _ _ trivial hS rfl; revert hk; go_simp)
              case io4onx4 =>
                intro k1 w1 hk0 hk1 hb1 hS hd KK hK
                have d3 : x3 = .int .i64 x := hd 3 (by kernel_rfl)
                clear hd
                subst d3
                have dx := DX.out
                simp only [Act.put, List.setIfInBounds_toArray, List.set_cons_zero, List.set_cons_succ] at hK
                go_simp
                first | exact hK.out _ _ trivial hS rfl | (have hk := hK.out _ _ trivial hS rfl; revert hk; go_simp)
              case io4onx5 =>
                intro k1 w1 hk0 hk1 hb1 hS hd KK hK
                have d4 : x4 = .bool false := hd 4 (by kernel_rfl)
                clear hd
                subst d4
                simp only [Act.put, List.setIfInBounds_toArray, List.set_cons_zero, List.set_cons_succ] at hK
                go_simp
                first | exact hK.out _ _ trivial hS rfl | (have hk := hK.out _ _ trivial hS rfl; revert hk; go_simp)
              case io4onx6 =>
                intro k1 w1 hk0 hk1 hb1 hS hd KK hK
                have d5 : x5 = .bool false := hd 5 (by kernel_rfl)
                clear hd
                subst d5
                simp only [Act.put, List.setIfInBounds_toArray, List.set_cons_zero, List.set_cons_succ] at hK
                go_simp
                first | exact hK.out _ _ trivial hS rfl | (have hk := hK.out _ _ trivial hS rfl; revert hk; go_simp)
              case io4onx7 =>
                intro k1 w1 hk0 hk1 hb1 hS hd KK hK
                have d5 : x5 = .bool false := hd 5 (by kernel_rfl)
                clear hd
                subst d5
                simp only [Act.put, List.setIfInBounds_toArray, List.set_cons_zero, List.set_cons_succ] at hK
                go_simp
                first | exact hK.out _ _ trivial hS rfl | (have hk := hK.out _ _ trivial hS rfl; revert hk; go_simp)
              case io4onx8 =>
                intro k1 w1 hk0 hk1 hb1 hS hd KK hK
                have d5 : x5 = .bool false := hd 5 (by kernel_rfl)
                have d6 : x6 = .slice (some ⟨b, off, none⟩) xs.length c := hd 6 (by kernel_rfl)
                have d7 : x7 = .int .i64 (k : Int) := hd 7 (by kernel_rfl)
                clear hd
                subst d5
                subst d6
                subst d7
                simp only [Act.put, List.setIfInBounds_toArray, List.set_cons_zero, List.set_cons_succ] at hK
                go_simp
                first | exact hK.out _ _ trivial hS rfl | (have hk := hK.out _ _ trivial hS rfl; revert hk; go_simp)
              case io4onx9 =>
                intro k1 w1 hk0 hk1 hb1 hS hd KK hK
                have d5 : x5 = .bool false := hd 5 (by kernel_rfl)
                have d8 : x8 = .pointer (some ⟨b, off + k, none⟩) := hd 8 (by kernel_rfl)
                clear hd
                subst d5
                subst d8
                obtain ⟨b9, o9, he, _, hcx⟩ := (hS.l 0 rfl).cell k hlt
                cases he
                rw [HX.out] at hcx
                simp only [Act.put, List.setIfInBounds_toArray, List.set_cons_zero, List.set_cons_succ] at hK
                go_simp
                first | exact hK.out _ _ trivial hS rfl | (have hk := hK.out _ _ trivial hS rfl; revert hk; go_simp)
              case io4onx10 =>
                intro k1 w1 hk0 hk1 hb1 hS hd KK hK
                have d5 : x5 = .bool false := hd 5 (by kernel_rfl)
                clear hd
                subst d5
                simp only [Act.put, List.setIfInBounds_toArray, List.set_cons_zero, List.set_cons_succ] at hK
                go_simp
                first | exact hK.out _ _ trivial hS rfl | (have hk := hK.out _ _ trivial hS rfl; revert hk; go_simp)
              case io4onx11 =>
                intro k1 w1 hk0 hk1 hb1 hS hd KK hK
                have d5 : x5 = .bool false := hd 5 (by kernel_rfl)
                have d9 : x9 = .int .i64 x := hd 9 (by kernel_rfl)
                have d10 : x10 = .int .i64 r := hd 10 (by kernel_rfl)
                clear hd
                subst d5
                subst d9
                subst d10
                have dx := DR.out
                simp only [Act.put, List.setIfInBounds_toArray, List.set_cons_zero, List.set_cons_succ] at hK
                go_simp
                first | exact hK.out _ _ trivial hS rfl | (have hk := hK.out _ _ trivial hS rfl; revert hk; go_simp)
              case io4onx12 =>
                intro k1 w1 hk0 hk1 hb1 hS hd KK hK
                have d5 : x5 = .bool false := hd 5 (by kernel_rfl)
                have d11 : x11 = .bool false := hd 11 (by kernel_rfl)
                clear hd
                subst d5
                subst d11
                simp only [Act.put, List.setIfInBounds_toArray, List.set_cons_zero, List.set_cons_succ] at hK
                go_simp
                first | exact hK.out _ _ trivial hS rfl | (have hk := hK.out _ _ trivial hS rfl; revert hk; go_simp)
              case io4onx13 =>
                intro k1 w1 hk0 hk1 hb1 hS hd KK hK
                have d5 : x5 = .bool false := hd 5 (by kernel_rfl)
                have d12 : x12 = .bool false := hd 12 (by kernel_rfl)
                clear hd
                subst d5
                subst d12
                simp only [Act.put, List.setIfInBounds_toArray, List.set_cons_zero, List.set_cons_succ] at hK
                go_simp
                first | exact hK.out _ _ trivial hS rfl | (have hk := hK.out _ _ trivial hS rfl; revert hk; go_simp)
              case io4onx14 =>
                intro k1 w1 hk0 hk1 hb1 hS hd KK hK
                have d13 : x13 = .bool false := hd 13 (by kernel_rfl)
                clear hd
                subst d13
                simp only [Act.put, List.setIfInBounds_toArray, List.set_cons_zero, List.set_cons_succ] at hK
                go_simp
                first | exact hK.out _ _ trivial hS rfl | (have hk := hK.out _ _ trivial hS rfl; revert hk; go_simp)
              case io4onx15 =>
                intro k1 w1 hk0 hk1 hb1 hS hd KK hK
                have d13 : x13 = .bool false := hd 13 (by kernel_rfl)
                have d14 : x14 = .int .i64 (k : Int) := hd 14 (by kernel_rfl)
                clear hd
                subst d13
                subst d14
                have dx := DK.out
                simp only [Act.put, List.setIfInBounds_toArray, List.set_cons_zero, List.set_cons_succ] at hK
                go_simp
                first | exact hK.out _ _ trivial hS rfl | (have hk := hK.out _ _ trivial hS rfl; revert hk; go_simp)
              case io4onx16 =>
                intro k1 w1 hk0 hk1 hb1 hS hd KK hK
                have d13 : x13 = .bool false := hd 13 (by kernel_rfl)
                have d15 : x15 = .bool true := hd 15 (by kernel_rfl)
                clear hd
                subst d13
                subst d15
                simp only [Act.put, List.setIfInBounds_toArray, List.set_cons_zero, List.set_cons_succ] at hK
                go_simp
                first | exact hK.out _ _ trivial hS rfl | (have hk := hK.out _ _ trivial hS rfl; revert hk; go_simp)
              case io4onx17 =>
                intro k1 w1 hk0 hk1 hb1 hS hd KK hK
                have d16 : x16 = .bool true := hd 16 (by kernel_rfl)
                clear hd
                subst d16
                simp only [Act.put, List.setIfInBounds_toArray, List.set_cons_zero, List.set_cons_succ] at hK
                go_simp
                first | exact hK.out _ _ trivial hS rfl | (have hk := hK.out _ _ trivial hS rfl; revert hk; go_simp)
              case io4onx18 =>
                intro k1 w1 hk0 hk1 hb1 hS hd KK hK
                have d16 : x16 = .bool true := hd 16 (by kernel_rfl)
                clear hd
                subst d16
                simp only [Act.put, List.setIfInBounds_toArray, List.set_cons_zero, List.set_cons_succ] at hK
                go_simp
                first | exact hK.out _ _ trivial hS rfl | (have hk := hK.out _ _ trivial hS rfl; revert hk; go_simp)
              case io4onx19 =>
                intro k1 w1 hk0 hk1 hb1 hS hd KK hK
                have d16 : x16 = .bool true := hd 16 (by kernel_rfl)
                have d17 : x17 = .slice (some ⟨b, off, none⟩) xs.length c := hd 17 (by kernel_rfl)
                have d18 : x18 = .int .i64 (k : Int) := hd 18 (by kernel_rfl)
                clear hd
                subst d16
                subst d17
                subst d18
                simp only [Act.put, List.setIfInBounds_toArray, List.set_cons_zero, List.set_cons_succ] at hK
                go_simp
                first | exact hK.out _ _ trivial hS rfl | (have hk := hK.out _ _ trivial hS rfl; revert hk; go_simp)
              case io4onx20 =>
                intro k1 w1 hk0 hk1 hb1 hS hd KK hK
                have d16 : x16 = .bool true := hd 16 (by kernel_rfl)
                have d19 : x19 = .pointer (some ⟨b, off + k, none⟩) := hd 19 (by kernel_rfl)
                clear hd
                subst d16
                subst d19
                obtain ⟨b9, o9, he, _, hcx⟩ := (hS.l 0 rfl).cell k hlt
                cases he
                rw [HX.out] at hcx
                simp only [Act.put, List.setIfInBounds_toArray, List.set_cons_zero, List.set_cons_succ] at hK
                go_simp
                first | exact hK.out _ _ trivial hS rfl | (have hk := hK.out _ _ trivial hS rfl; revert hk; go_simp)
              case io4onx21 =>
                intro k1 w1 hk0 hk1 hb1 hS hd KK hK
                have d16 : x16 = .bool true := hd 16 (by kernel_rfl)
                clear hd
                subst d16
                simp only [Act.put, List.setIfInBounds_toArray, List.set_cons_zero, List.set_cons_succ] at hK
                go_simp
                first | exact hK.out _ _ trivial hS rfl | (have hk := hK.out _ _ trivial hS rfl; revert hk; go_simp)
              case io4onx22 =>
                intro k1 w1 hk0 hk1 hb1 hS hd KK hK
                have d16 : x16 = .bool true := hd 16 (by kernel_rfl)
                clear hd
                subst d16
                simp only [Act.put, List.setIfInBounds_toArray, List.set_cons_zero, List.set_cons_succ] at hK
                go_simp
                first | exact hK.out _ _ trivial hS rfl | (have hk := hK.out _ _ trivial hS rfl; revert hk; go_simp)
              case io4onx23 =>
                intro k1 w1 hk0 hk1 hb1 hS hd KK hK
                have d16 : x16 = .bool true := hd 16 (by kernel_rfl)
                have d22 : x22 = .int .i64 (k : Int) := hd 22 (by kernel_rfl)
                clear hd
                subst d16
                subst d22
                have dx := DW.out
                simp only [Act.put, List.setIfInBounds_toArray, List.set_cons_zero, List.set_cons_succ] at hK
                go_simp
                first | exact hK.out _ _ trivial hS rfl | (have hk := hK.out _ _ trivial hS rfl; revert hk; go_simp)
              case io4onx24 =>
                intro k1 w1 hk0 hk1 hb1 hS hd KK hK
                have d16 : x16 = .bool true := hd 16 (by kernel_rfl)
                have d21 : x21 = .slice (some ⟨b, off, none⟩) xs.length c := hd 21 (by kernel_rfl)
                have d23 : x23 = .int .i64 ((k : Int) - 1) := hd 23 (by kernel_rfl)
                clear hd
                subst d16
                subst d21
                subst d23
                simp only [Act.put, List.setIfInBounds_toArray, List.set_cons_zero, List.set_cons_succ] at hK
                go_simp
                first | exact hK.out _ _ trivial hS rfl | (have hk := hK.out _ _ trivial hS rfl; revert hk; go_simp)
              case io4onx25 =>
                intro k1 w1 hk0 hk1 hb1 hS hd KK hK
                have d16 : x16 = .bool true := hd 16 (by kernel_rfl)
                have d24 : x24 = .pointer (some ⟨b, off + (k - 1), none⟩) := hd 24 (by kernel_rfl)
                clear hd
                subst d16
                subst d24
                obtain ⟨b9, o9, he, _, hcx⟩ := (hS.l 0 rfl).cell (k - 1) (by omega)
                cases he
                rw [HL0.out hkn] at hcx
                simp only [Act.put, List.setIfInBounds_toArray, List.set_cons_zero, List.set_cons_succ] at hK
                go_simp
                first | exact hK.out _ _ trivial hS rfl | (have hk := hK.out _ _ trivial hS rfl; revert hk; go_simp)
              case io4onx26 =>
                intro k1 w1 hk0 hk1 hb1 hS hd KK hK
                have d16 : x16 = .bool true := hd 16 (by kernel_rfl)
                have d20 : x20 = .int .i64 x := hd 20 (by kernel_rfl)
                have d25 : x25 = .int .i64 L := hd 25 (by kernel_rfl)
                clear hd
                subst d16
                subst d20
                subst d25
                have dx := DL.out
                simp only [Act.put, List.setIfInBounds_toArray, List.set_cons_zero, List.set_cons_succ] at hK
                go_simp
                first | exact hK.out _ _ trivial hS rfl | (have hk := hK.out _ _ trivial hS rfl; revert hk; go_simp)
              case io4onx27 =>
                intro k1 w1 hk0 hk1 hb1 hS hd KK hK
                have d13 : x13 = .bool false := hd 13 (by kernel_rfl)
                have d16 : x16 = .bool true := hd 16 (by kernel_rfl)
                have d26 : x26 = .bool false := hd 26 (by kernel_rfl)
                clear hd
                subst d13
                subst d16
                subst d26
                simp only [Act.put, List.setIfInBounds_toArray, List.set_cons_zero, List.set_cons_succ] at hK
                go_simp
                first | exact hK.out _ _ trivial hS rfl | (have hk := hK.out _ _ trivial hS rfl; revert hk; go_simp)
              case io4onx28 =>
                intro k1 w1 hk0 hk1 hb1 hS hd KK hK
                have d13 : x13 = .bool false := hd 13 (by kernel_rfl)
                have d27 : x27 = .bool false := hd 27 (by kernel_rfl)
                clear hd
                subst d13
                subst d27
                simp only [Act.put, List.setIfInBounds_toArray, List.set_cons_zero, List.set_cons_succ] at hK
                go_simp
                first | exact hK.out _ _ trivial hS rfl | (have hk := hK.out _ _ trivial hS rfl; revert hk; go_simp)
              case iend4on =>
                intro w1 hb1 hS hR
                have d0 : x0 = .slice (some ⟨b, off, none⟩) xs.length c := hR 0 (by decide)
                have d1 : x1 = .int .i64 (k : Int) := hR 1 (by decide)
                have d2 : x2 = .pointer (some ⟨b, off + k, none⟩) := hR 2 (by decide)
                have d3 : x3 = .int .i64 x := hR 3 (by decide)
                have d4 : x4 = .bool false := hR 4 (by decide)
                have d5 : x5 = .bool false := hR 5 (by decide)
                have d6 : x6 = .slice (some ⟨b, off, none⟩) xs.length c := hR 6 (by decide)
                have d7 : x7 = .int .i64 (k : Int) := hR 7 (by decide)
                have d8 : x8 = .pointer (some ⟨b, off + k, none⟩) := hR 8 (by decide)
                have d9 : x9 = .int .i64 x := hR 9 (by decide)
                have d10 : x10 = .int .i64 r := hR 10 (by decide)
                have d11 : x11 = .bool false := hR 11 (by decide)
                have d12 : x12 = .bool false := hR 12 (by decide)
                have d13 : x13 = .bool false := hR 13 (by decide)
                have d14 : x14 = .int .i64 (k : Int) := hR 14 (by decide)
                have d15 : x15 = .bool true := hR 15 (by decide)
                have d16 : x16 = .bool true := hR 16 (by decide)
                have d17 : x17 = .slice (some ⟨b, off, none⟩) xs.length c := hR 17 (by decide)
                have d18 : x18 = .int .i64 (k : Int) := hR 18 (by decide)
                have d19 : x19 = .pointer (some ⟨b, off + k, none⟩) := hR 19 (by decide)
                have d20 : x20 = .int .i64 x := hR 20 (by decide)
                have d21 : x21 = .slice (some ⟨b, off, none⟩) xs.length c := hR 21 (by decide)
                have d22 : x22 = .int .i64 (k : Int) := hR 22 (by decide)
                have d23 : x23 = .int .i64 ((k : Int) - 1) := hR 23 (by decide)
                have d24 : x24 = .pointer (some ⟨b, off + (k - 1), none⟩) := hR 24 (by decide)
                have d25 : x25 = .int .i64 L := hR 25 (by decide)
                have d26 : x26 = .bool false := hR 26 (by decide)
                have d27 : x27 = .bool false := hR 27 (by decide)
                have d28 : x28 = .bool false := hR 28 (by decide)
                clear hR
                subst d0
                subst d1
                subst d2
                subst d3
                subst d4
                subst d5
                subst d6
                subst d7
                subst d8
                subst d9
                subst d10
                subst d11
                subst d12
                subst d13
                subst d14
                subst d15
                subst d16
                subst d17
                subst d18
                subst d19
                subst d20
                subst d21
                subst d22
                subst d23
                subst d24
                subst d25
                subst d26
                subst d27
                subst d28
                try simp only [putAll, Act.put, List.setIfInBounds_toArray, List.set_cons_zero, List.set_cons_succ]
                have F3 := Lib.hid hS
                clear hS hb1 F2
                go_wp2
                go_roundw
                case rel => exact ⟨k + 1, by omega, by go_num, HF, F3⟩
                case measure => simp [intOf]; omega
    · obtain rfl : k = xs.length := by omega
      have HF : Hid (axB (-1) r xs = true) := Lib.hid (by rw [HA.out.1, List.drop_length]; rfl)
      clear HA
      go_wp2
      go_ret
      exact ⟨by rw [HF.out]; rfl, F2.out.bel⟩
end Go.Proofs.YtinboddfmojodaaGreat
