/- Walks: the reference's Turn. -/
import Derived.Test.YtddhhfhammmaaaaGreatMXTP
import Derived.Test.YtddhhfhammmaaaaGreatMXAll
set_option linter.unusedVariables false
set_option linter.unusedSimpArgs false
namespace Go.Proofs.YtddhhfhammmaaaaGreat
open Go.RowKit Go.Rt
set_option maxRecDepth 100000 in
set_option maxHeartbeats 4000000 in
theorem rturn_any (a b : Option Addr) (c d : Nat) (xs ys : List Int) (w : World) (h : Ints .i64 w w.heap.size a xs) (h2 : Ints .i64 w w.heap.size b ys) (ht : tenB xs ys = true) (hn2 : 2 ≤ xs.length) :
    Calls Tryz.prog 8 #[.agg #[.slice a xs.length c, .slice b ys.length d]] w (RetTO w (swapL xs) (turnL xs ys)) := by
  have H0 := Lib.hid h
  have H1 := Lib.hid h2
  obtain ⟨g, l, _⟩ := tenB_iff.1 ht
  have h4 := (goodB_iff.1 g).1
  have hTV := turn_view ht hn2
  have hof := fun W (h : Ints .i64 W W.heap.size a xs) => rof_any a c xs W h g
  have hsl := strI_length xs
  have hwS : ∀ x ∈ strI xs, (Lit.int .i64 x).wf = true := fun x hx => by have := strI_mem (goodB_dims g) (goodB_prod g).2 x hx; exact wf_i64_iff.2 ⟨by omega, by omega⟩
  have hwX : ∀ x ∈ xs, (Lit.int .i64 x).wf = true := h.wf
  have hax := axT_axes xs.length hn2 h4
  have hal := axT_len xs.length hn2
  have hwA : ∀ x ∈ axT xs.length, (Lit.int .i64 x).wf = true := by
    intro x hx
    unfold axT at hx
    simp at hx
    rcases hx with ⟨i, hi, rfl⟩ | rfl | rfl
    · exact wf_i64_iff.2 ⟨by omega, by omega⟩
    · exact wf_i64_iff.2 ⟨by omega, by omega⟩
    · exact wf_i64_iff.2 ⟨by omega, by omega⟩
  have hAX : axT xs.length = (List.range (xs.length - 2)).map (fun i : Nat => (i : Int)) ++ [((xs.length - 1 : Nat) : Int), ((xs.length - 2 : Nat) : Int)] := rfl
  have hps := permL_swap xs hn2
  have hwW : ∀ x ∈ swapL xs, (Lit.int .i64 x).wf = true := fun x hx => by have := goodB_dims (swapL_good g hn2).1 x hx; exact wf_i64_iff.2 ⟨by omega, by omega⟩
  have hwP : ∀ x ∈ permL (strI xs) (axT xs.length), (Lit.int .i64 x).wf = true := fun x hx => by have := (viewB_iff.1 hTV.1).2.2.2.2.2.1 x hx; exact wf_i64_iff.2 ⟨by omega, by omega⟩
  have htr := fun (p q r : Option Addr) (i j l : Nat) W (h : Ints .i64 W W.heap.size p xs) (h2 : Ints .i64 W W.heap.size q (strI xs)) (h3 : Ints .i64 W W.heap.size r (axT xs.length)) => rtrans_any p q r i j l xs (strI xs) (axT xs.length) 0 W h h2 h3 h4 hsl hax
  rw [hps] at htr
  have hcp := fun (p q : Option Addr) (i j : Nat) W (h : Ints .i64 W W.heap.size p (swapL xs)) (h2 : Ints .i64 W W.heap.size q (permL (strI xs) (axT xs.length))) (h3 : Ints .i64 W W.heap.size b ys) => rcopy_any p q b i j d (swapL xs) (permL (strI xs) (axT xs.length)) ys 0 W h h2 h3 hTV.1
  rw [hTV.2] at hcp
  obtain ⟨ST, hST⟩ : ∃ l, strI xs = l := ⟨_, rfl⟩
  obtain ⟨AX, hAXe⟩ : ∃ l, axT xs.length = l := ⟨_, rfl⟩
  rw [hST, hAXe] at hcp htr hwP
  rw [hST] at hof hwS
  rw [hAXe] at hwA hAX hal
  obtain ⟨PT, hPT⟩ : ∃ l, permL ST AX = l := ⟨_, rfl⟩
  obtain ⟨SW, hSW⟩ : ∃ l, swapL xs = l := ⟨_, rfl⟩
  obtain ⟨YT, hYT⟩ : ∃ l, turnL xs ys = l := ⟨_, rfl⟩
  rw [hPT] at hcp htr hwP
  rw [hSW] at hcp htr hwW ⊢
  rw [hYT] at hcp ⊢
  have HOF := Lib.hid hof
  have HTR := Lib.hid htr
  have HCP := Lib.hid hcp
  have HWS := Lib.hid hwS
  have HWX := Lib.hid hwX
  have HWA := Lib.hid hwA
  have HWW := Lib.hid hwW
  have HWP := Lib.hid hwP
  have HAX := Lib.hid hAX
  have HAL := Lib.hid (show xs.length - 2 + 2 = AX.length by omega)
  clear h h2 g l hTV hof hsl hwS hwX hax hal hwA hAX hps hwW hwP htr hcp hST hAXe hPT hSW hYT ht
  go_enter Tryz.func8, Tryz.ntmps8
  have F1 := Lib.hid (((Fr.start (w := w) (I := [(.i64, a, xs), (.i64, b, ys)]) (by intro z hz; simp at hz; rcases hz with rfl | rfl; exact H0.out; exact H1.out)).box1 (b := w.heap.size) rfl [.slice a xs.length c, .slice b ys.length d] 26).box1 (b := w.heap.size + 1) (by simp) [.slice none 0 0, .slice none 0 0] 26)
  simp only [List.nil_append, List.cons_append] at F1
  go_upto_region 1 with fail
  obtain ⟨W1, hW1⟩ : ∃ W1, ((w.alloc (.cells #[.slice a xs.length c, .slice b ys.length d] 26)).alloc (.cells #[.slice none 0 0, .slice none 0 0] 26)) = W1 := ⟨_, rfl⟩
  rw [hW1] at F1 ⊢
  clear hW1
  have c0_0 := F1.out.c 0 0 rfl rfl
  have c0_1 := F1.out.c 0 1 rfl rfl
  go_wp2_with fail
  go_loopw [4, 5] (fun s i wr => ∃ k : Nat, k ≤ xs.length - 2 ∧ i = .int .i64 k ∧ ∃ al cl, s = .slice al k cl ∧ Hid (Fr w.heap.size w wr [(w.heap.size, [.slice a xs.length c, .slice b ys.length d]), (w.heap.size + 1, [.slice none 0 0, .slice none 0 0])] [(.i64, a, xs), (.i64, b, ys)] [⟨3, .slice al k cl, k, ((List.range k).map (fun i : Nat => (i : Int))).map (Value.int .i64)⟩] [])) (fun _ i _ => xs.length - 2 - (intOf i).toNat)
  case atStart => exact ⟨0, Nat.zero_le _, rfl, none, 0, rfl, Lib.hid (by have := F1.out.addNil 3; simpa using this)⟩
  case round =>
    obtain ⟨k, hk, rfl, al, cl, rfl, FK⟩ := hrel
    clear F1 c0_0 c0_1
    obtain ⟨wk, rfl⟩ : ∃ wk : World, wk = wr := ⟨_, rfl⟩
    have hw2 : ∀ [Inhabited Unit], IntKind.i64.wrap ((k : Int) + 2) = (k : Int) + 2 := by intro _; exact IntWalk.i64_in _ (by omega)
    by_cases hlt : k < xs.length - 2
    · skip
      have hki : (k : Int) + 2 < (xs.length : Int) := by omega
      have hra : (List.range (k + 1)).map (fun i : Nat => (i : Int)) = (List.range k).map (fun i : Nat => (i : Int)) ++ [(k : Int)] := by rw [List.range_succ, List.map_append, List.map_cons, List.map_nil]
      have HRA := Lib.hid hra
      have hk5 : k ≤ 1000000 := by omega
      have HK5 := Lib.hid hk5
      clear hra hk5
      go_wp2_with (at_builtin; go_loud ((refine appendI w.heap.size (.slice al k cl) k ((List.range k).map (fun i : Nat => (i : Int))) (k : Int) _ _ _ rfl rfl rfl (FK.out.r 0 rfl) rfl HK5.out FK.out.hlo ?_); intro v' w3 hown _ hgr hob; rw [← HRA.out] at hown; obtain ⟨a3, c3, rfl, _⟩ := own_shape hown; have F3 := Lib.hid (FK.out.wroteO 0 rfl hgr hown (fun g hg => by rcases hob with h | h; exact .inl (h.symm.trans hg); exact .inr (by have h5 := h.symm.trans hg; injection h5 with h5; omega))); simp only [List.set_cons_zero] at F3; clear hown hgr hob FK))
      go_roundw
      case rel => exact ⟨k + 1, by omega, by go_num, a3, c3, rfl, F3⟩
      case measure => simp [intOf]; omega
    · obtain rfl : k = xs.length - 2 := by omega
      have hki : ¬ ((xs.length - 2 : Nat) : Int) + 2 < (xs.length : Int) := by omega
      have HAX2 := HAX
      go_wp2
      have u4 : ∀ [Inhabited Unit], IntKind.i64.wrap ((xs.length : Int) - 1) = ((xs.length - 1 : Nat) : Int) := by intro _; rw [IntWalk.i64_in _ (by omega)]; omega
      have u5 : ∀ [Inhabited Unit], IntKind.i64.wrap ((xs.length : Int) - 2) = ((xs.length - 2 : Nat) : Int) := by intro _; rw [IntWalk.i64_in _ (by omega)]; omega
      have FD := FK.out.drew
      refine wp_region_J (S := fun W => W.cell? ⟨w.heap.size, 0, none⟩ = some (.slice a xs.length c) ∧ W.cell? ⟨w.heap.size, 1, none⟩ = some (.slice b ys.length d)) (S1 := fun _ => True) (L := []) (by kernel_rfl) ⟨FD.c 0 0 rfl rfl, FD.c 0 1 rfl rfl⟩ trivial (fun hHeld hHeld1 => ?_)
      obtain ⟨w0, hw0⟩ : ∃ x, wk.drew = x := ⟨_, rfl⟩
      rw [hw0] at FD hHeld ⊢
      clear hw0 FK
      refine takeJ (i := 0) (dst := (some 19)) (v := ?_) rfl rfl (by kernel_rfl) (by kernel_rfl) (by kernel_rfl) (by kernel_rfl) (fun _ _ _ h => h) (by rfl) ?hy0 hHeld hHeld1 ?rest0
      case hy0 => (intro W hSw; (try dsimp only at hSw); (try obtain ⟨s0, s1⟩ := hSw); go_simp; (try with_reducible rfl))
      try simp only [Act.put, List.setIfInBounds_toArray, List.set_cons_zero, List.set_cons_succ]
      refine takeJ (i := 1) (dst := (some 20)) (v := ?_) rfl rfl (by kernel_rfl) (by kernel_rfl) (by kernel_rfl) (by kernel_rfl) (fun _ _ _ h => h) (by rfl) ?hy1 hHeld hHeld1 ?rest1
      case hy1 => (intro W hSw; (try dsimp only at hSw); (try obtain ⟨s0, s1⟩ := hSw); go_simp; (try with_reducible rfl))
      try simp only [Act.put, List.setIfInBounds_toArray, List.set_cons_zero, List.set_cons_succ]
      refine takeJ (i := 11) (dst := (some 30)) (v := ?_) rfl rfl (by kernel_rfl) (by kernel_rfl) (by kernel_rfl) (by kernel_rfl) (fun _ _ _ h => h) (by rfl) ?hy11 hHeld hHeld1 ?rest11
      case hy11 => (intro W hSw; (try dsimp only at hSw); (try obtain ⟨s0, s1⟩ := hSw); go_simp; (try with_reducible rfl))
      try simp only [Act.put, List.setIfInBounds_toArray, List.set_cons_zero, List.set_cons_succ]
      refine takeJ (i := 12) (dst := (some 31)) (v := ?_) rfl rfl (by kernel_rfl) (by kernel_rfl) (by kernel_rfl) (by kernel_rfl) (fun _ _ _ h => h) (by rfl) ?hy12 hHeld hHeld1 ?rest12
      case hy12 => (intro W hSw; (try dsimp only at hSw); (try obtain ⟨s0, s1⟩ := hSw); go_simp; (try with_reducible rfl))
      try simp only [Act.put, List.setIfInBounds_toArray, List.set_cons_zero, List.set_cons_succ]
      refine takeJ (i := 3) (dst := (some 22)) (v := ?_) rfl rfl (by kernel_rfl) (by kernel_rfl) (by kernel_rfl) (by kernel_rfl) (fun _ _ _ h => h) (by rfl) ?hy3 hHeld hHeld1 ?rest3
      case hy3 => (intro W hSw; (try dsimp only at hSw); (try obtain ⟨s0, s1⟩ := hSw); go_simp; (try with_reducible rfl))
      try simp only [Act.put, List.setIfInBounds_toArray, List.set_cons_zero, List.set_cons_succ]
      refine takeJ (i := 4) (dst := (some 23)) (v := ?_) rfl rfl (by kernel_rfl) (by kernel_rfl) (by kernel_rfl) (by kernel_rfl) (fun _ _ _ h => h) (by rfl) ?hy4 hHeld hHeld1 ?rest4
      case hy4 => (intro W hSw; (try dsimp only at hSw); (try obtain ⟨s0, s1⟩ := hSw); go_simp; (try with_reducible rfl))
      try simp only [Act.put, List.setIfInBounds_toArray, List.set_cons_zero, List.set_cons_succ]
      refine takeJ (i := 5) (dst := (some 24)) (v := ?_) rfl rfl (by kernel_rfl) (by kernel_rfl) (by kernel_rfl) (by kernel_rfl) (fun _ _ _ h => h) (by rfl) ?hy5 hHeld hHeld1 ?rest5
      case hy5 => (intro W hSw; (try dsimp only at hSw); (try obtain ⟨s0, s1⟩ := hSw); go_simp; (try with_reducible rfl))
      try simp only [Act.put, List.setIfInBounds_toArray, List.set_cons_zero, List.set_cons_succ]
      refine takeJ (i := 6) (dst := (some 25)) (v := ?_) rfl rfl (by kernel_rfl) (by kernel_rfl) (by kernel_rfl) (by kernel_rfl) (fun _ _ _ h => h) (by rfl) ?hy6 hHeld hHeld1 ?rest6
      case hy6 => (intro W hSw; (try dsimp only at hSw); (try obtain ⟨s0, s1⟩ := hSw); go_simp; (try with_reducible rfl))
      try simp only [Act.put, List.setIfInBounds_toArray, List.set_cons_zero, List.set_cons_succ]
      refine takeJ (i := 7) (dst := (some 26)) (v := ?_) rfl rfl (by kernel_rfl) (by kernel_rfl) (by kernel_rfl) (by kernel_rfl) (fun _ _ _ h => h) (by rfl) ?hy7 hHeld hHeld1 ?rest7
      case hy7 => (intro W hSw; (try dsimp only at hSw); (try obtain ⟨s0, s1⟩ := hSw); go_simp; (try with_reducible rfl))
      try simp only [Act.put, List.setIfInBounds_toArray, List.set_cons_zero, List.set_cons_succ]
      refine readyJ (rs := [2, 8]) (by kernel_rfl) (by simp) ?_
      refine (AllJ.cons rfl ?op2x (AllJ.cons rfl ?op8x AllJ.nil))
      case op2x =>
        intro K hK
        skip
        go_simp
        go_wp2_with (go_at_call 31; refine (HOF.out _ (FD.lw 0 rfl)).mono ?_; rintro e w1 ⟨as_, cs_, at_, ct_, rfl, hf⟩; have G1 := FD.join hf; simp only [List.cons_append, List.nil_append, List.set_cons_zero, List.set_cons_succ] at G1; clear hf)
        refine hK.out _ _ (fun _ => ⟨G1.c 0 0 rfl rfl, G1.c 0 1 rfl rfl⟩) trivial (fun hHeld hHeld1 => ?_)
        replace hHeld := hHeld rfl
        clear hK K
        try simp only [Act.put, List.setIfInBounds_toArray, List.set_cons_zero, List.set_cons_succ]
        refine readyJ (rs := [8]) (by kernel_rfl) (by simp) ?_
        refine (AllJ.cons rfl ?op8x2 AllJ.nil)
        case op8x2 =>
          intro K hK
          go_simp
          obtain ⟨B8, hB8⟩ : ∃ x, w1.heap.size = x := ⟨_, rfl⟩
          rw [hB8]
          have G2 := G1.box1 hB8 [.int .i64 ((xs.length - 1 : Nat) : Int), .int .i64 ((xs.length - 2 : Nat) : Int)] 3
          simp only [List.cons_append, List.nil_append, List.set_cons_zero, List.set_cons_succ] at G2
          obtain ⟨w2, hw2⟩ : ∃ zz, (w1.alloc (.cells #[.int .i64 ((xs.length - 1 : Nat) : Int), .int .i64 ((xs.length - 2 : Nat) : Int)] 3)) = zz := ⟨_, rfl⟩
          rw [hw2] at G2 ⊢
          clear hw2 hB8
          refine hK.out _ _ (fun _ => ⟨G2.c 0 0 rfl rfl, G2.c 0 1 rfl rfl⟩) trivial (fun hHeld hHeld1 => ?_)
          replace hHeld := hHeld rfl
          clear hK K
          try simp only [Act.put, List.setIfInBounds_toArray, List.set_cons_zero, List.set_cons_succ]
          refine readyJ (rs := [9]) (by kernel_rfl) (by simp) ?_
          refine (AllJ.cons rfl ?op9x28 AllJ.nil)
          case op9x28 =>
            intro K hK
            refine stepAppN 23 3 infoInt Tryz.underlying23 w.heap.size (.slice al (xs.length - 2) cl) (xs.length - 2) ((List.range (xs.length - 2)).map (fun i : Nat => (i : Int))) [((xs.length - 1 : Nat) : Int), ((xs.length - 2 : Nat) : Int)] 2 2 ⟨B8, 0, none⟩ _ _ rfl rfl rfl (G2.r 0 rfl) rfl rfl (by decide) (fun j hj => ?_) (by omega) (by decide) G2.hlo ?_
            · match j, hj with
              | 0, _ => exact G2.c 2 0 rfl rfl
              | 1, _ => exact G2.c 2 1 rfl rfl
            intro g9 c9 w3 hown hgr hob
            rw [← HAX.out, HAL.out] at hown
            rw [HAL.out]
            have G3 := G2.wroteO 0 rfl hgr hown (fun g hg => by rcases hob with h | h; exact .inl (h.trans hg); exact .inr (by injection hg with hg; simp only at hg; omega))
            simp only [List.cons_append, List.nil_append, List.set_cons_zero, List.set_cons_succ] at G3
            clear hown hgr hob
            refine hK.out _ _ (fun _ => ⟨G3.c 0 0 rfl rfl, G3.c 0 1 rfl rfl⟩) trivial (fun hHeld hHeld1 => ?_)
            replace hHeld := hHeld rfl
            clear hK K
            try simp only [Act.put, List.setIfInBounds_toArray, List.set_cons_zero, List.set_cons_succ]
            refine readyJ (rs := [10]) (by kernel_rfl) (by simp) ?_
            refine (AllJ.cons rfl ?op10x289 AllJ.nil)
            case op10x289 =>
              intro K hK
              go_simp
              go_wp2_with (go_at_call 30; refine (HTR.out _ _ _ _ _ _ _ (G3.li 1 (k := .i64) (xs := xs) rfl HWX.out) (G3.li 2 (k := .i64) (xs := ST) rfl HWS.out) (G3.li 0 (k := .i64) (xs := AX) rfl HWA.out)).mono ?_; rintro e w4 ⟨au_, cu_, av_, cv_, rfl, hf⟩; have G4 := G3.join hf; simp only [List.cons_append, List.nil_append, List.set_cons_zero, List.set_cons_succ] at G4; clear hf)
              refine hK.out _ _ (fun _ => ⟨G4.c 0 0 rfl rfl, G4.c 0 1 rfl rfl⟩) trivial (fun hHeld hHeld1 => ?_)
              replace hHeld := hHeld rfl
              clear hK K
              try simp only [Act.put, List.setIfInBounds_toArray, List.set_cons_zero, List.set_cons_succ]
              refine readyJ (rs := [13]) (by kernel_rfl) (by simp) ?_
              refine (AllJ.cons rfl ?op13x28910 AllJ.nil)
              case op13x28910 =>
                intro K hK
                go_simp
                go_wp2_with (go_at_call 29; refine (HCP.out _ _ _ _ _ (G4.li 3 (k := .i64) (xs := SW) rfl HWW.out) (G4.li 4 (k := .i64) (xs := PT) rfl HWP.out) (G4.lw 1 rfl)).mono ?_; rintro e w5 ⟨ax_, cx_, ay_, cy_, rfl, hf⟩; have G5 := G4.join hf; simp only [List.cons_append, List.nil_append, List.set_cons_zero, List.set_cons_succ] at G5; clear hf)
                refine hK.out _ _ (fun _ => ⟨G5.c 0 0 rfl rfl, G5.c 0 1 rfl rfl⟩) trivial (fun hHeld hHeld1 => ?_)
                replace hHeld := hHeld rfl
                clear hK K
                try simp only [Act.put, List.setIfInBounds_toArray, List.set_cons_zero, List.set_cons_succ]
                refine readyJ (rs := [14]) (by kernel_rfl) (by simp) ?_
                refine (AllJ.cons rfl ?op14x2891013 AllJ.nil)
                case op14x2891013 =>
                  intro K hK
                  have q0 := G5.c 1 0 rfl rfl
                  have q1 := G5.c 1 1 rfl rfl
                  have r0 := G5.f 1 0 rfl rfl
                  have r1 := G5.f 1 1 rfl rfl
                  go_simp
                  have G6 := G5.set 1 rfl (by simp) [.slice ax_ SW.length cx_, .slice ay_ YT.length cy_] rfl
                  simp only [setL, Nat.reduceAdd, List.set_cons_zero, List.set_cons_succ] at G6
                  refine hK.out _ _ (fun _ => ⟨G6.c 0 0 rfl rfl, G6.c 0 1 rfl rfl⟩) trivial (fun hHeld hHeld1 => ?_)
                  replace hHeld := hHeld rfl
                  clear hK K
                  try simp only [Act.put, List.setIfInBounds_toArray, List.set_cons_zero, List.set_cons_succ]
                  refine doneJ (by kernel_rfl) ?_
                  have y0 := G6.c 1 0 rfl rfl
                  have y1 := G6.c 1 1 rfl rfl
                  go_wp2
                  refine bodyPost_ret (v := .agg #[.slice ax_ SW.length cx_, .slice ay_ YT.length cy_]) ?_ rfl ⟨ax_, cx_, ay_, cy_, rfl, (G6.less (.refl _) (.refl _) ((((((List.Sublist.refl _).cons _).cons _).cons _).cons _).cons _) (.refl _)).rows⟩
                  rw [results_cZ rfl]
                  go_simp
      case op8x =>
        intro K hK
        go_simp
        obtain ⟨B8, hB8⟩ : ∃ x, w0.heap.size = x := ⟨_, rfl⟩
        rw [hB8]
        have G1 := FD.box1 hB8 [.int .i64 ((xs.length - 1 : Nat) : Int), .int .i64 ((xs.length - 2 : Nat) : Int)] 3
        simp only [List.cons_append, List.nil_append, List.set_cons_zero, List.set_cons_succ] at G1
        obtain ⟨w1, hw1⟩ : ∃ zz, (w0.alloc (.cells #[.int .i64 ((xs.length - 1 : Nat) : Int), .int .i64 ((xs.length - 2 : Nat) : Int)] 3)) = zz := ⟨_, rfl⟩
        rw [hw1] at G1 ⊢
        clear hw1 hB8
        refine hK.out _ _ (fun _ => ⟨G1.c 0 0 rfl rfl, G1.c 0 1 rfl rfl⟩) trivial (fun hHeld hHeld1 => ?_)
        replace hHeld := hHeld rfl
        clear hK K
        try simp only [Act.put, List.setIfInBounds_toArray, List.set_cons_zero, List.set_cons_succ]
        refine readyJ (rs := [2]) (by kernel_rfl) (by simp) ?_
        refine (AllJ.cons rfl ?op2x8 AllJ.nil)
        case op2x8 =>
          intro K hK
          skip
          go_simp
          go_wp2_with (go_at_call 31; refine (HOF.out _ (G1.lw 0 rfl)).mono ?_; rintro e w2 ⟨as_, cs_, at_, ct_, rfl, hf⟩; have G2 := G1.join hf; simp only [List.cons_append, List.nil_append, List.set_cons_zero, List.set_cons_succ] at G2; clear hf)
          refine hK.out _ _ (fun _ => ⟨G2.c 0 0 rfl rfl, G2.c 0 1 rfl rfl⟩) trivial (fun hHeld hHeld1 => ?_)
          replace hHeld := hHeld rfl
          clear hK K
          try simp only [Act.put, List.setIfInBounds_toArray, List.set_cons_zero, List.set_cons_succ]
          refine readyJ (rs := [9]) (by kernel_rfl) (by simp) ?_
          refine (AllJ.cons rfl ?op9x82 AllJ.nil)
          case op9x82 =>
            intro K hK
            refine stepAppN 23 3 infoInt Tryz.underlying23 w.heap.size (.slice al (xs.length - 2) cl) (xs.length - 2) ((List.range (xs.length - 2)).map (fun i : Nat => (i : Int))) [((xs.length - 1 : Nat) : Int), ((xs.length - 2 : Nat) : Int)] 2 2 ⟨B8, 0, none⟩ _ _ rfl rfl rfl (G2.r 0 rfl) rfl rfl (by decide) (fun j hj => ?_) (by omega) (by decide) G2.hlo ?_
            · match j, hj with
              | 0, _ => exact G2.c 2 0 rfl rfl
              | 1, _ => exact G2.c 2 1 rfl rfl
            intro g9 c9 w3 hown hgr hob
            rw [← HAX.out, HAL.out] at hown
            rw [HAL.out]
            have G3 := G2.wroteO 0 rfl hgr hown (fun g hg => by rcases hob with h | h; exact .inl (h.trans hg); exact .inr (by injection hg with hg; simp only at hg; omega))
            simp only [List.cons_append, List.nil_append, List.set_cons_zero, List.set_cons_succ] at G3
            clear hown hgr hob
            refine hK.out _ _ (fun _ => ⟨G3.c 0 0 rfl rfl, G3.c 0 1 rfl rfl⟩) trivial (fun hHeld hHeld1 => ?_)
            replace hHeld := hHeld rfl
            clear hK K
            try simp only [Act.put, List.setIfInBounds_toArray, List.set_cons_zero, List.set_cons_succ]
            refine readyJ (rs := [10]) (by kernel_rfl) (by simp) ?_
            refine (AllJ.cons rfl ?op10x829 AllJ.nil)
            case op10x829 =>
              intro K hK
              go_simp
              go_wp2_with (go_at_call 30; refine (HTR.out _ _ _ _ _ _ _ (G3.li 1 (k := .i64) (xs := xs) rfl HWX.out) (G3.li 2 (k := .i64) (xs := ST) rfl HWS.out) (G3.li 0 (k := .i64) (xs := AX) rfl HWA.out)).mono ?_; rintro e w4 ⟨au_, cu_, av_, cv_, rfl, hf⟩; have G4 := G3.join hf; simp only [List.cons_append, List.nil_append, List.set_cons_zero, List.set_cons_succ] at G4; clear hf)
              refine hK.out _ _ (fun _ => ⟨G4.c 0 0 rfl rfl, G4.c 0 1 rfl rfl⟩) trivial (fun hHeld hHeld1 => ?_)
              replace hHeld := hHeld rfl
              clear hK K
              try simp only [Act.put, List.setIfInBounds_toArray, List.set_cons_zero, List.set_cons_succ]
              refine readyJ (rs := [13]) (by kernel_rfl) (by simp) ?_
              refine (AllJ.cons rfl ?op13x82910 AllJ.nil)
              case op13x82910 =>
                intro K hK
                go_simp
                go_wp2_with (go_at_call 29; refine (HCP.out _ _ _ _ _ (G4.li 3 (k := .i64) (xs := SW) rfl HWW.out) (G4.li 4 (k := .i64) (xs := PT) rfl HWP.out) (G4.lw 1 rfl)).mono ?_; rintro e w5 ⟨ax_, cx_, ay_, cy_, rfl, hf⟩; have G5 := G4.join hf; simp only [List.cons_append, List.nil_append, List.set_cons_zero, List.set_cons_succ] at G5; clear hf)
                refine hK.out _ _ (fun _ => ⟨G5.c 0 0 rfl rfl, G5.c 0 1 rfl rfl⟩) trivial (fun hHeld hHeld1 => ?_)
                replace hHeld := hHeld rfl
                clear hK K
                try simp only [Act.put, List.setIfInBounds_toArray, List.set_cons_zero, List.set_cons_succ]
                refine readyJ (rs := [14]) (by kernel_rfl) (by simp) ?_
                refine (AllJ.cons rfl ?op14x8291013 AllJ.nil)
                case op14x8291013 =>
                  intro K hK
                  have q0 := G5.c 1 0 rfl rfl
                  have q1 := G5.c 1 1 rfl rfl
                  have r0 := G5.f 1 0 rfl rfl
                  have r1 := G5.f 1 1 rfl rfl
                  go_simp
                  have G6 := G5.set 1 rfl (by simp) [.slice ax_ SW.length cx_, .slice ay_ YT.length cy_] rfl
                  simp only [setL, Nat.reduceAdd, List.set_cons_zero, List.set_cons_succ] at G6
                  refine hK.out _ _ (fun _ => ⟨G6.c 0 0 rfl rfl, G6.c 0 1 rfl rfl⟩) trivial (fun hHeld hHeld1 => ?_)
                  replace hHeld := hHeld rfl
                  clear hK K
                  try simp only [Act.put, List.setIfInBounds_toArray, List.set_cons_zero, List.set_cons_succ]
                  refine doneJ (by kernel_rfl) ?_
                  have y0 := G6.c 1 0 rfl rfl
                  have y1 := G6.c 1 1 rfl rfl
                  go_wp2
                  refine bodyPost_ret (v := .agg #[.slice ax_ SW.length cx_, .slice ay_ YT.length cy_]) ?_ rfl ⟨ax_, cx_, ay_, cy_, rfl, (G6.less (.refl _) (.refl _) ((((((List.Sublist.refl _).cons _).cons _).cons _).cons _).cons _) (.refl _)).rows⟩
                  rw [results_cZ rfl]
                  go_simp
end Go.Proofs.YtddhhfhammmaaaaGreat
