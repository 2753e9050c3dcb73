/- The law ViewExact, walked. -/
import Derived.Test.YtnafbgkfhojamaaViewY
import Derived.Test.YtnafbgkfhojamaaWidQ
import Derived.Deep.RegionWith
set_option linter.unusedVariables false
set_option linter.unusedSimpArgs false
namespace Go.Proofs.Ytnafbgkfhojamaa
open Go.RowKit Go.Rt
set_option maxRecDepth 100000 in
set_option maxHeartbeats 8000000 in
theorem viewExact_any (q : Option Addr) (n c0 : Nat) (w : World) (h : AsksUp w w.heap.size q n) :
    Calls Try.prog 6 #[.slice q n c0] w fun e w' => e = .returned (.bool true) ∧ Below w.heap.size w w' := by
  have hm := h.len
  go_enter Try.func6, Try.ntmps6
  go_wp2_with fail
  go_loopw [3] (fun i wr => ∃ k : Nat, k ≤ n ∧ i = .int .i64 k ∧ Below w.heap.size w wr) (fun i _ => n - (intOf i).toNat)
  case atStart => exact ⟨0, Nat.zero_le _, rfl, Below.refl _ _⟩
  case round =>
    obtain ⟨k, hk, rfl, hbel⟩ := hrel
    obtain ⟨wo, rfl⟩ : ∃ wo : World, wo = wr := ⟨_, rfl⟩
    by_cases hend : k < n ∧ k < 15
    · obtain ⟨hlt, h20⟩ := hend
      obtain ⟨b0, o_, rfl, a, b, ad, ax, as_, tp, tq, c, d, cd, cx, cs, cp, cq, sh, st, data, axs, ss, tsh, tys, off, p1, p2, p3, ht, hstl⟩ := h.at_ k hlt
      replace ht := ht.below hbel
      have hsz := hbel.size
      have HB := Lib.hid hbel
      have hl1 := ht.iS.len
      have hl2 := ht.iT.len
      have hl3 := ht.iD.len
      have hl4 := ht.iX.len
      have hl5 := ht.iG.len
      have hl6 := ht.iP.len
      have hl7 := ht.iQ.len
      clear hbel h
      have HI0 := Lib.hid (ht.iS.mono hsz)
      have HI1 := Lib.hid (ht.iT.mono hsz)
      have HI2 := Lib.hid (ht.iX.mono hsz)
      have HI3 := Lib.hid (ht.iG.mono hsz)
      have hhv := fun W (h : Ints .i64 W W.heap.size a sh) => heavy7_any a b ad ax as_ tp tq c d cd cx cs cp cq sh st data axs ss tsh tys off p1 p2 p3 W h hl3 hl4 hl5 hl6 hl7
      have q0 := ht.cell 0 _ rfl
      have q1 := ht.cell 1 _ rfl
      have q2 := ht.cell 2 _ rfl
      have q3 := ht.cell 3 _ rfl
      have q4 := ht.cell 4 _ rfl
      have q5 := ht.cell 5 _ rfl
      have q6 := ht.cell 6 _ rfl
      have q7 := ht.cell 7 _ rfl
      have q8 := ht.cell 8 _ rfl
      have q9 := ht.cell 9 _ rfl
      have q10 := ht.cell 10 _ rfl
      simp only [Nat.add_zero] at q0
      have HP1 := Lib.hid ht.r1
      have HP2 := Lib.hid ht.r2
      clear ht
      cases hv : heavy7 sh data.length tsh.length tys.length ss.length axs.length with
      | true =>
        rw [hv] at hhv
        clear hv
        have F1 := Lib.hid ((Fr.start (w := wo) (I := [(.i64, a, sh), (.i64, b, st), (.i64, ax, axs), (.i64, as_, ss)]) (by intro z hz; simp at hz; rcases hz with rfl | rfl | rfl | rfl; exact HI0.out; exact HI1.out; exact HI2.out; exact HI3.out)).box1 (b := wo.heap.size) rfl [.slice a sh.length c, .slice b st.length d, .int .i64 off, .slice ad data.length cd, .slice ax axs.length cx, .slice as_ ss.length cs, .int .i64 p1, .int .i64 p2, .int .i64 p3, .slice tp tsh.length cp, .slice tq tys.length cq] 30)
        simp only [List.nil_append] at F1
        go_upto_region 5 with fail
        obtain ⟨W1, hW1⟩ : ∃ W1, wo.alloc (.cells #[.slice a sh.length c, .slice b st.length d, .int .i64 off, .slice ad data.length cd, .slice ax axs.length cx, .slice as_ ss.length cs, .int .i64 p1, .int .i64 p2, .int .i64 p3, .slice tp tsh.length cp, .slice tq tys.length cq] 30) = W1 := ⟨_, rfl⟩
        rw [hW1] at F1 ⊢
        clear hW1 q0 q1 q2 q3 q4 q5 q6 q7 q8 q9 q10
        have c0_0 := F1.out.c 0 0 rfl rfl
        have c0_1 := F1.out.c 0 1 rfl rfl
        have c0_2 := F1.out.c 0 2 rfl rfl
        have c0_3 := F1.out.c 0 3 rfl rfl
        have c0_4 := F1.out.c 0 4 rfl rfl
        have c0_5 := F1.out.c 0 5 rfl rfl
        have c0_6 := F1.out.c 0 6 rfl rfl
        have c0_7 := F1.out.c 0 7 rfl rfl
        have c0_8 := F1.out.c 0 8 rfl rfl
        have c0_9 := F1.out.c 0 9 rfl rfl
        have c0_10 := F1.out.c 0 10 rfl rfl
        go_wp2_with (go_at_call 7; refine (hhv W1 (F1.out.lw 0 rfl)).mono ?_; rintro e w2 ⟨rfl, hb⟩; have F2 := Lib.hid (F1.out.next hb); clear hb)
        go_ret
        exact ⟨rfl, HB.out.trans (F2.out.bel.mono HB.out.size)⟩
      | false =>
        rw [hv] at hhv
        obtain ⟨g1, g2, g3, g4, g5, g6, g7⟩ := heavy7_no hv
        clear hv g7
        have F1 := Lib.hid ((Fr.start (w := wo) (I := [(.i64, a, sh), (.i64, b, st), (.i64, ax, axs), (.i64, as_, ss)]) (by intro z hz; simp at hz; rcases hz with rfl | rfl | rfl | rfl; exact HI0.out; exact HI1.out; exact HI2.out; exact HI3.out)).box1 (b := wo.heap.size) rfl [.slice a sh.length c, .slice b st.length d, .int .i64 off, .slice ad data.length cd, .slice ax axs.length cx, .slice as_ ss.length cs, .int .i64 p1, .int .i64 p2, .int .i64 p3, .slice tp tsh.length cp, .slice tq tys.length cq] 30)
        simp only [List.nil_append] at F1
        go_upto_region 5 with fail
        obtain ⟨W1, hW1⟩ : ∃ W1, wo.alloc (.cells #[.slice a sh.length c, .slice b st.length d, .int .i64 off, .slice ad data.length cd, .slice ax axs.length cx, .slice as_ ss.length cs, .int .i64 p1, .int .i64 p2, .int .i64 p3, .slice tp tsh.length cp, .slice tq tys.length cq] 30) = W1 := ⟨_, rfl⟩
        rw [hW1] at F1 ⊢
        clear hW1 q0 q1 q2 q3 q4 q5 q6 q7 q8 q9 q10
        have c0_0 := F1.out.c 0 0 rfl rfl
        have c0_1 := F1.out.c 0 1 rfl rfl
        have c0_2 := F1.out.c 0 2 rfl rfl
        have c0_3 := F1.out.c 0 3 rfl rfl
        have c0_4 := F1.out.c 0 4 rfl rfl
        have c0_5 := F1.out.c 0 5 rfl rfl
        have c0_6 := F1.out.c 0 6 rfl rfl
        have c0_7 := F1.out.c 0 7 rfl rfl
        have c0_8 := F1.out.c 0 8 rfl rfl
        have c0_9 := F1.out.c 0 9 rfl rfl
        have c0_10 := F1.out.c 0 10 rfl rfl
        go_upto_region 7 with (go_at_call 7; refine (hhv W1 (F1.out.lw 0 rfl)).mono ?_; rintro e w2 ⟨rfl, hb⟩; have F2 := Lib.hid (F1.out.next hb); clear hb F1 c0_0 c0_1 c0_2 c0_3 c0_4 c0_5 c0_6 c0_7 c0_8 c0_9 c0_10; have d0_0 := F2.out.c 0 0 rfl rfl; have d0_1 := F2.out.c 0 1 rfl rfl; have d0_2 := F2.out.c 0 2 rfl rfl; have d0_3 := F2.out.c 0 3 rfl rfl; have d0_4 := F2.out.c 0 4 rfl rfl; have d0_5 := F2.out.c 0 5 rfl rfl; have d0_6 := F2.out.c 0 6 rfl rfl; have d0_7 := F2.out.c 0 7 rfl rfl; have d0_8 := F2.out.c 0 8 rfl rfl; have d0_9 := F2.out.c 0 9 rfl rfl; have d0_10 := F2.out.c 0 10 rfl rfl)
        have hVT := fun (p q : Option Addr) (cp cq : Nat) W (h : Ints .i64 W W.heap.size p sh) (h2 : Ints .i64 W W.heap.size q st) (h3 : Ints .i64 W W.heap.size ax axs) => vtrans_all p q ax cp cq cx sh st axs off W h h2 h3
        have hVS := fun (p q : Option Addr) (cp cq : Nat) W (h : Ints .i64 W W.heap.size p sh) (h2 : Ints .i64 W W.heap.size q st) => vslice_all p q cp cq sh st off p1 p2 p3 W h h2
        have hVW := fun (p q : Option Addr) (cp cq : Nat) W (h : Ints .i64 W W.heap.size p sh) (h2 : Ints .i64 W W.heap.size q st) (h3 : Ints .i64 W W.heap.size as_ ss) => vwiden_all p q as_ cp cq cs sh st ss off W h h2 h3
        have hVR := fun (p q : Option Addr) (cp cq : Nat) W (h : Ints .i64 W W.heap.size p sh) (h2 : Ints .i64 W W.heap.size q st) (h3 : Ints .i64 W W.heap.size as_ ss) => vreshape_all p q as_ cp cq cs sh st ss off W h h2 h3
        have hVO := fun W (h : Ints .i64 W W.heap.size as_ ss) => vof_all as_ cs ss W h
        obtain ⟨TZ, hTZ⟩ : ∃ x, trZ sh st off axs = x := ⟨_, rfl⟩
        rw [hTZ] at hVT
        obtain ⟨TS, hTS⟩ : ∃ x, okL TZ (permL sh axs) = x := ⟨_, rfl⟩
        obtain ⟨TT, hTT⟩ : ∃ x, okL TZ (permL st axs) = x := ⟨_, rfl⟩
        rw [hTS, hTT] at hVT
        obtain ⟨TO, hTO⟩ : ∃ x, okI TZ (off) = x := ⟨_, rfl⟩
        rw [hTO] at hVT
        have HVT := Lib.hid hVT
        have ETZ := Lib.hid hTZ
        have ETS := Lib.hid hTS
        have ETT := Lib.hid hTT
        have ETO := Lib.hid hTO
        obtain ⟨SZ, hSZ⟩ : ∃ x, slZ sh st off p1 p2 p3 = x := ⟨_, rfl⟩
        rw [hSZ] at hVS
        obtain ⟨SS, hSS⟩ : ∃ x, okL SZ (sh.set p1.toNat (p3 - p2)) = x := ⟨_, rfl⟩
        obtain ⟨ST, hST⟩ : ∃ x, okL SZ (st) = x := ⟨_, rfl⟩
        rw [hSS, hST] at hVS
        obtain ⟨SO, hSO⟩ : ∃ x, okI SZ (off + p2 * (st[p1.toNat]?.getD 0)) = x := ⟨_, rfl⟩
        rw [hSO] at hVS
        have HVS := Lib.hid hVS
        have ESZ := Lib.hid hSZ
        have ESS := Lib.hid hSS
        have EST := Lib.hid hST
        have ESO := Lib.hid hSO
        obtain ⟨WZ, hWZ⟩ : ∃ x, wdZ sh st off ss = x := ⟨_, rfl⟩
        rw [hWZ] at hVW
        obtain ⟨WS, hWS⟩ : ∃ x, okL WZ (ss) = x := ⟨_, rfl⟩
        obtain ⟨WT, hWT⟩ : ∃ x, okL WZ (widL sh st ss) = x := ⟨_, rfl⟩
        rw [hWS, hWT] at hVW
        obtain ⟨WO, hWO⟩ : ∃ x, okI WZ (off) = x := ⟨_, rfl⟩
        rw [hWO] at hVW
        have HVW := Lib.hid hVW
        have EWZ := Lib.hid hWZ
        have EWS := Lib.hid hWS
        have EWT := Lib.hid hWT
        have EWO := Lib.hid hWO
        obtain ⟨RZ, hRZ⟩ : ∃ x, rsZ sh st off ss = x := ⟨_, rfl⟩
        rw [hRZ] at hVR
        obtain ⟨RS, hRS⟩ : ∃ x, okL RZ (ss) = x := ⟨_, rfl⟩
        obtain ⟨RT, hRT⟩ : ∃ x, okL RZ (strI ss) = x := ⟨_, rfl⟩
        rw [hRS, hRT] at hVR
        have HVR := Lib.hid hVR
        have ERZ := Lib.hid hRZ
        have ERS := Lib.hid hRS
        have ERT := Lib.hid hRT
        obtain ⟨OZ, hOZ⟩ : ∃ x, ofZ ss = x := ⟨_, rfl⟩
        rw [hOZ] at hVO
        obtain ⟨OS, hOS⟩ : ∃ x, okL OZ (ss) = x := ⟨_, rfl⟩
        obtain ⟨OT, hOT⟩ : ∃ x, okL OZ (strI ss) = x := ⟨_, rfl⟩
        rw [hOS, hOT] at hVO
        have HVO := Lib.hid hVO
        have EOZ := Lib.hid hOZ
        have EOS := Lib.hid hOS
        have EOT := Lib.hid hOT
        have HSW := Lib.hid HI0.out.wf
        have HTW := Lib.hid HI1.out.wf
        have HGW := Lib.hid HI3.out.wf
        have wTS : ∀ x ∈ TS, (Lit.int .i64 x).wf = true := by rw [← hTS]; exact okL_wf fun _ => permL_wf7 HSW.out
        have wTT : ∀ x ∈ TT, (Lit.int .i64 x).wf = true := by rw [← hTT]; exact okL_wf fun _ => permL_wf7 HTW.out
        have wSS : ∀ x ∈ SS, (Lit.int .i64 x).wf = true := by rw [← hSS]; exact okL_wf fun h0 => slice_wf (sl_yes (hSZ.trans h0)) HSW.out
        have wST : ∀ x ∈ ST, (Lit.int .i64 x).wf = true := by rw [← hST]; exact okL_wf fun _ => HTW.out
        have wWS : ∀ x ∈ WS, (Lit.int .i64 x).wf = true := by rw [← hWS]; exact okL_wf fun _ => HGW.out
        have wWT : ∀ x ∈ WT, (Lit.int .i64 x).wf = true := by rw [← hWT]; exact okL_wf fun _ => widL_wf HTW.out
        have wRS : ∀ x ∈ RS, (Lit.int .i64 x).wf = true := by rw [← hRS]; exact okL_wf fun _ => HGW.out
        have wRT : ∀ x ∈ RT, (Lit.int .i64 x).wf = true := by rw [← hRT]; exact okL_wf fun h0 => strI_wf (rs_good (hRZ.trans h0))
        have wOS : ∀ x ∈ OS, (Lit.int .i64 x).wf = true := by rw [← hOS]; exact okL_wf fun _ => HGW.out
        have wOT : ∀ x ∈ OT, (Lit.int .i64 x).wf = true := by rw [← hOT]; exact okL_wf fun h0 => strI_wf (of_good_ (hOZ.trans h0))
        have nTS : TS.length ≤ 100000 := by rw [← hTS]; have := okL_len TZ (permL sh axs); rw [permL_len] at this; omega
        have nTT : TT.length ≤ 100000 := by rw [← hTT]; have := okL_len TZ (permL st axs); rw [permL_len] at this; omega
        have nSS : SS.length ≤ 100000 := by rw [← hSS]; have := okL_len SZ (sh.set p1.toNat (p3 - p2)); rw [List.length_set] at this; omega
        have nST : ST.length ≤ 100000 := by rw [← hST]; exact sl_len hSZ g4
        have nWS : WS.length ≤ 100000 := by rw [← hWS]; have := okL_len WZ ss; omega
        have nWT : WT.length ≤ 100000 := by rw [← hWT]; have := okL_len WZ (widL sh st ss); rw [widL_len] at this; omega
        have nRS : RS.length ≤ 100000 := by rw [← hRS]; have := okL_len RZ ss; omega
        have nRT : RT.length ≤ 100000 := by rw [← hRT]; have := okL_len RZ (strI ss); rw [strI_length] at this; omega
        have nOS : OS.length ≤ 100000 := by rw [← hOS]; have := okL_len OZ ss; omega
        have nOT : OT.length ≤ 100000 := by rw [← hOT]; have := okL_len OZ (strI ss); rw [strI_length] at this; omega
        have hNT : TZ ≠ 0 → TS = [] ∧ TT = [] ∧ TO = 0 := fun h9 => by rw [← hTS, ← hTT, ← hTO]; unfold okL okI; simp [h9]
        have HNT := Lib.hid hNT
        have HWTS := Lib.hid wTS
        have HWTT := Lib.hid wTT
        have HLTS := Lib.hid nTS
        have HLTT := Lib.hid nTT
        have hNS : SZ ≠ 0 → SS = [] ∧ ST = [] ∧ SO = 0 := fun h9 => by rw [← hSS, ← hST, ← hSO]; unfold okL okI; simp [h9]
        have HNS := Lib.hid hNS
        have HWSS := Lib.hid wSS
        have HWST := Lib.hid wST
        have HLSS := Lib.hid nSS
        have HLST := Lib.hid nST
        have hNW : WZ ≠ 0 → WS = [] ∧ WT = [] ∧ WO = 0 := fun h9 => by rw [← hWS, ← hWT, ← hWO]; unfold okL okI; simp [h9]
        have HNW := Lib.hid hNW
        have HWWS := Lib.hid wWS
        have HWWT := Lib.hid wWT
        have HLWS := Lib.hid nWS
        have HLWT := Lib.hid nWT
        have hNR : RZ ≠ 0 → RS = [] ∧ RT = [] ∧ (0 : Int) = 0 := fun h9 => by rw [← hRS, ← hRT]; unfold okL; simp [h9]
        have HNR := Lib.hid hNR
        have HWRS := Lib.hid wRS
        have HWRT := Lib.hid wRT
        have HLRS := Lib.hid nRS
        have HLRT := Lib.hid nRT
        have hNO : OZ ≠ 0 → OS = [] ∧ OT = [] ∧ (0 : Int) = 0 := fun h9 => by rw [← hOS, ← hOT]; unfold okL; simp [h9]
        have HNO := Lib.hid hNO
        have HWOS := Lib.hid wOS
        have HWOT := Lib.hid wOT
        have HLOS := Lib.hid nOS
        have HLOT := Lib.hid nOT
        clear hVT hTZ hTS hTT hNT wTS wTT nTS nTT hTO hVS hSZ hSS hST hNS wSS wST nSS nST hSO hVW hWZ hWS hWT hNW wWS wWT nWS nWT hWO hVR hRZ hRS hRT hNR wRS wRT nRS nRT hVO hOZ hOS hOT hNO wOS wOT nOS nOT
        have hcv := fun W (h : Ints .i64 W W.heap.size a sh) (h2 : Ints .i64 W W.heap.size b st) => copyViewL_any a b c d sh st off W h h2 (by omega) (by omega)
        go_upto_region 8 with (go_at_call 35; refine (hcv _ (F2.out.lw 0 rfl) (F2.out.lw 1 rfl)).mono ?_; rintro e w3 ⟨a5, c5, b5, d5, rfl, hf⟩; have F3 := Lib.hid (F2.out.join hf); simp only [List.cons_append, List.nil_append] at F3; clear hf F2 d0_0 d0_1 d0_2 d0_3 d0_4 d0_5 d0_6 d0_7 d0_8 d0_9 d0_10)
        obtain ⟨X5, hX5⟩ : ∃ x, w3.heap.size = x := ⟨_, rfl⟩
        rw [hX5]
        have F4 := Lib.hid (F3.out.box1 (b := X5) hX5 [.slice a5 sh.length c5, .slice b5 st.length d5, .int .i64 off] 25)
        simp only [List.nil_append, List.cons_append] at F4
        obtain ⟨W4, hW4⟩ : ∃ x, (w3.alloc (.cells #[.slice a5 sh.length c5, .slice b5 st.length d5, .int .i64 off] 25)) = x := ⟨_, rfl⟩
        rw [hW4] at F4 ⊢
        clear hW4 hX5 F3
        clear hcv
        have d0_0 := F4.out.c 0 0 rfl rfl
        have d0_1 := F4.out.c 0 1 rfl rfl
        have d0_2 := F4.out.c 0 2 rfl rfl
        have d0_3 := F4.out.c 0 3 rfl rfl
        have d0_4 := F4.out.c 0 4 rfl rfl
        have d0_5 := F4.out.c 0 5 rfl rfl
        have d0_6 := F4.out.c 0 6 rfl rfl
        have d0_7 := F4.out.c 0 7 rfl rfl
        have d0_8 := F4.out.c 0 8 rfl rfl
        have d0_9 := F4.out.c 0 9 rfl rfl
        have d0_10 := F4.out.c 0 10 rfl rfl
        have hmv := fun (n : Int) W (h : Ints .i64 W W.heap.size a sh) (h2 : Ints .i64 W W.heap.size b st) => mayView_any a b c d W.heap.size sh st off n W h h2 (Nat.le_refl _)
        have hmv6 := hmv 65536
        obtain ⟨vb, hvb⟩ : ∃ x, viewB sh st off 65536 = x := ⟨_, rfl⟩
        rw [hvb] at hmv6
        have HVB := Lib.hid hvb
        have HMV := Lib.hid hmv
        have HMV6 := Lib.hid hmv6
        clear hvb hmv hmv6
        obtain ⟨BZ, hBZ⟩ : ∃ x : Int, (if vb = true then 0 else 1) = x := ⟨_, rfl⟩
        have EBZ := Lib.hid hBZ
        clear hBZ
        go_upto_if 43 with (go_at_call 8; refine (HMV6.out _ (F4.out.lw 0 rfl) (F4.out.lw 1 rfl)).mono ?_; rintro e w5 ⟨rfl, hb⟩; have F5 := Lib.hid (F4.out.next hb); clear hb F4 d0_0 d0_1 d0_2 d0_3 d0_4 d0_5 d0_6 d0_7 d0_8 d0_9 d0_10)
        go_cut [6] from 43 to 43 (fun s6 wx => s6 = .int .i64 BZ ∧ wx = w5)
        case first =>
          cases vb with
          | true =>
            have hz : BZ = 0 := by rw [← EBZ.out]; rfl
            go_wp2
            go_meet
            exact ⟨by rw [hz], rfl⟩
          | false =>
            have hz : BZ = 1 := by rw [← EBZ.out]; rfl
            go_wp2
            go_meet
            exact ⟨by rw [hz], rfl⟩
        case rest =>
          obtain ⟨rfl, rfl⟩ := hcut
          go_upto_region 12 with fail
          obtain ⟨w6, rfl⟩ : ∃ x : World, x = wc := ⟨_, rfl⟩
          obtain ⟨S6, hS6⟩ : ∃ x, w6.heap.size = x := ⟨_, rfl⟩
          have F6 := Lib.hid (((((F5.out.box1 (b := S6) (by simp [hS6]) [.slice none 0 0, .slice none 0 0, .int .i64 0] 25).box1 (b := S6 + 1) (by simp [hS6]) [.slice none 0 0, .slice none 0 0, .int .i64 0] 25).box1 (b := S6 + 1 + 1) (by simp [hS6]) [.slice none 0 0, .slice none 0 0, .int .i64 0] 25).box1 (b := S6 + 1 + 1 + 1) (by simp [hS6]) [.slice none 0 0, .slice none 0 0, .int .i64 0] 25).box1 (b := S6 + 1 + 1 + 1 + 1) (by simp [hS6]) [.slice none 0 0, .slice none 0 0, .int .i64 0] 25)
          simp only [List.nil_append, List.cons_append] at F6
          go_upto_region 13 with fail
          (try simp only [hS6])
          obtain ⟨W6, hW6⟩ : ∃ x, (((((w6.alloc (.cells #[.slice none 0 0, .slice none 0 0, .int .i64 0] 25)).alloc (.cells #[.slice none 0 0, .slice none 0 0, .int .i64 0] 25)).alloc (.cells #[.slice none 0 0, .slice none 0 0, .int .i64 0] 25)).alloc (.cells #[.slice none 0 0, .slice none 0 0, .int .i64 0] 25)).alloc (.cells #[.slice none 0 0, .slice none 0 0, .int .i64 0] 25)) = x := ⟨_, rfl⟩
          rw [hW6] at F6 ⊢
          clear hW6 F5
          obtain ⟨Y12, hY12⟩ : ∃ x, S6 = x := ⟨_, rfl⟩
          obtain ⟨Y13, hY13⟩ : ∃ x, S6 + 1 = x := ⟨_, rfl⟩
          obtain ⟨Y14, hY14⟩ : ∃ x, S6 + 1 + 1 = x := ⟨_, rfl⟩
          obtain ⟨Y15, hY15⟩ : ∃ x, S6 + 1 + 1 + 1 = x := ⟨_, rfl⟩
          obtain ⟨Y16, hY16⟩ : ∃ x, S6 + 1 + 1 + 1 + 1 = x := ⟨_, rfl⟩
          rw [hY16, hY15, hY14, hY13, hY12] at F6 ⊢
          clear hS6 hY12 hY13 hY14 hY15 hY16
          go_upto_if 49 with fail
          go_cut [7, 8] from 50 to 106 (fun s7 s8 wx => s7 = .int .i64 TZ ∧ s8 = .int .i64 SZ ∧ ∃ a12 c12 b12 d12 a13 c13 b13 d13, Hid (Fr wo.heap.size wo wx [(wo.heap.size, [.slice a sh.length c, .slice b st.length d, .int .i64 off, .slice ad data.length cd, .slice ax axs.length cx, .slice as_ ss.length cs, .int .i64 p1, .int .i64 p2, .int .i64 p3, .slice tp tsh.length cp, .slice tq tys.length cq]), (X5, [.slice a5 sh.length c5, .slice b5 st.length d5, .int .i64 off]), (Y12, [.slice a12 TS.length c12, .slice b12 TT.length d12, .int .i64 TO]), (Y13, [.slice a13 SS.length c13, .slice b13 ST.length d13, .int .i64 SO]), (Y14, [.slice none 0 0, .slice none 0 0, .int .i64 0]), (Y15, [.slice none 0 0, .slice none 0 0, .int .i64 0]), (Y16, [.slice none 0 0, .slice none 0 0, .int .i64 0])] [(.i64, a, sh), (.i64, b, st), (.i64, ax, axs), (.i64, as_, ss)] [⟨3, .slice a5 sh.length c5, sh.length, sh.map (Value.int .i64)⟩, ⟨3, .slice b5 st.length d5, st.length, st.map (Value.int .i64)⟩, ⟨3, .slice a12 TS.length c12, TS.length, TS.map (Value.int .i64)⟩, ⟨3, .slice b12 TT.length d12, TT.length, TT.map (Value.int .i64)⟩, ⟨3, .slice a13 SS.length c13, SS.length, SS.map (Value.int .i64)⟩, ⟨3, .slice b13 ST.length d13, ST.length, ST.map (Value.int .i64)⟩] []))
          case first =>
            cases vb with
            | false =>
              obtain rfl : BZ = 1 := by rw [← EBZ.out]; rfl
              have hz1 : TZ = 1 := by rw [← ETZ.out]; unfold trZ; rw [HVB.out]; rfl
              have hz2 : SZ = 1 := by rw [← ESZ.out]; unfold slZ; rw [HVB.out]; rfl
              have HZ1 := Lib.hid hz1
              have HZ2 := Lib.hid hz2
              clear hz1 hz2
              go_wp2
              go_meet
              have n1 := HNT.out (by rw [HZ1.out]; decide)
              have n2 := HNS.out (by rw [HZ2.out]; decide)
              exact ⟨by rw [HZ1.out], by rw [HZ2.out], none, 0, none, 0, none, 0, none, 0, Lib.hid (by rw [n1.1, n1.2.1, n1.2.2, n2.1, n2.2.1, n2.2.2]; have h9 := (((F6.out.addNil 3).addNil 3).addNil 3).addNil 3; simpa only [List.append_assoc, List.cons_append, List.nil_append, List.map_nil, List.length_nil] using h9)⟩
            | true =>
              obtain rfl : BZ = 0 := by rw [← EBZ.out]; rfl
              have d0_0 := F6.out.c 0 0 rfl rfl
              have d0_1 := F6.out.c 0 1 rfl rfl
              have d0_2 := F6.out.c 0 2 rfl rfl
              have d0_3 := F6.out.c 0 3 rfl rfl
              have d0_4 := F6.out.c 0 4 rfl rfl
              have d0_5 := F6.out.c 0 5 rfl rfl
              have d0_6 := F6.out.c 0 6 rfl rfl
              have d0_7 := F6.out.c 0 7 rfl rfl
              have d0_8 := F6.out.c 0 8 rfl rfl
              have d0_9 := F6.out.c 0 9 rfl rfl
              have d0_10 := F6.out.c 0 10 rfl rfl
              have hxs := fun W (h : Ints .i64 W W.heap.size ax axs) => axes_any ax cx W.heap.size axs sh.length W h (by omega)
              obtain ⟨xb, hxb⟩ : ∃ x, axesB axs sh.length = x := ⟨_, rfl⟩
              rw [hxb] at hxs
              have HXB := Lib.hid hxb
              clear hxb
              have HG0 := Lib.hid (viewB_iff.1 HVB.out).1
              have HL0 := Lib.hid (viewB_iff.1 HVB.out).2.1
              go_upto_if 56 with (go_at_call 24; refine (hxs _ (F6.out.lw 2 rfl)).mono ?_; rintro e w' ⟨rfl, rfl⟩; skip)
              go_cut [7] from 57 to 61 (fun s7 wx => s7 = .int .i64 TZ ∧ ∃ a12 c12 b12 d12, Hid (Fr wo.heap.size wo wx [(wo.heap.size, [.slice a sh.length c, .slice b st.length d, .int .i64 off, .slice ad data.length cd, .slice ax axs.length cx, .slice as_ ss.length cs, .int .i64 p1, .int .i64 p2, .int .i64 p3, .slice tp tsh.length cp, .slice tq tys.length cq]), (X5, [.slice a5 sh.length c5, .slice b5 st.length d5, .int .i64 off]), (Y12, [.slice a12 TS.length c12, .slice b12 TT.length d12, .int .i64 TO]), (Y13, [.slice none 0 0, .slice none 0 0, .int .i64 0]), (Y14, [.slice none 0 0, .slice none 0 0, .int .i64 0]), (Y15, [.slice none 0 0, .slice none 0 0, .int .i64 0]), (Y16, [.slice none 0 0, .slice none 0 0, .int .i64 0])] [(.i64, a, sh), (.i64, b, st), (.i64, ax, axs), (.i64, as_, ss)] [⟨3, .slice a5 sh.length c5, sh.length, sh.map (Value.int .i64)⟩, ⟨3, .slice b5 st.length d5, st.length, st.map (Value.int .i64)⟩, ⟨3, .slice a12 TS.length c12, TS.length, TS.map (Value.int .i64)⟩, ⟨3, .slice b12 TT.length d12, TT.length, TT.map (Value.int .i64)⟩] []))
              case first =>
                cases xb with
                | false =>
                  have hz1 : TZ = 2 := by rw [← ETZ.out]; unfold trZ; rw [HVB.out, HXB.out]; rfl
                  have HZ1 := Lib.hid hz1
                  clear hz1 d0_0 d0_1 d0_2 d0_3 d0_4 d0_5 d0_6 d0_7 d0_8 d0_9 d0_10
                  go_wp2
                  go_meet
                  have n1 := HNT.out (by rw [HZ1.out]; decide)
                  exact ⟨by rw [HZ1.out], none, 0, none, 0, Lib.hid (by rw [n1.1, n1.2.1, n1.2.2]; have h9 := (F6.out.addNil 3).addNil 3; simpa only [List.append_assoc, List.cons_append, List.nil_append, List.map_nil, List.length_nil] using h9)⟩
                | true =>
                  have hz1 : TZ = 0 := by rw [← ETZ.out]; unfold trZ; rw [if_pos HVB.out, if_pos HXB.out]
                  have HZ1 := Lib.hid hz1
                  have hrt := fun W (h : Ints .i64 W W.heap.size a sh) (h2 : Ints .i64 W W.heap.size b st) (h3 : Ints .i64 W W.heap.size ax axs) => rtrans_any a b ax c d cx sh st axs off W h h2 h3 (by have := (goodB_iff.1 HG0.out).1; exact this) HL0.out HXB.out
                  have e1 : permL sh axs = TS := by rw [← ETS.out, hz1]; rfl
                  have e2 : permL st axs = TT := by rw [← ETT.out, hz1]; rfl
                  have e3 : off = TO := by rw [← ETO.out, hz1]; rfl
                  have hrt2 : ∀ W, Ints .i64 W W.heap.size a sh → Ints .i64 W W.heap.size b st → Ints .i64 W W.heap.size ax axs → Calls Try.prog 36 #[.agg #[.slice a sh.length c, .slice b st.length d, .int .i64 off], .slice ax axs.length cx] W (RetVO W TS TT TO) := fun W h h2 h3 => by have := hrt W h h2 h3; rw [e1, e2] at this; unfold RetVO at this ⊢; rw [← e3]; exact this
                  have HRT := Lib.hid hrt2
                  clear hrt hrt2 e1 e2 e3 hz1
                  go_wp2_with (go_at_call 36; refine (HRT.out _ (F6.out.lw 0 rfl) (F6.out.lw 1 rfl) (F6.out.lw 2 rfl)).mono ?_; rintro e wz ⟨a12, c12, b12, d12, rfl, hf⟩; have FZ := Lib.hid (F6.out.join hf); simp only [List.cons_append, List.nil_append] at FZ; clear hf F6 d0_0 d0_1 d0_2 d0_3 d0_4 d0_5 d0_6 d0_7 d0_8 d0_9 d0_10; have z2_0 := FZ.out.c 2 0 rfl rfl; have z2_1 := FZ.out.c 2 1 rfl rfl; have z2_2 := FZ.out.c 2 2 rfl rfl; have zf2_0 := FZ.out.f 2 0 rfl rfl; have zf2_1 := FZ.out.f 2 1 rfl rfl; have zf2_2 := FZ.out.f 2 2 rfl rfl)
                  go_meet
                  exact ⟨by rw [HZ1.out], a12, c12, b12, d12, Lib.hid (by have := FZ.out.set 2 rfl (by simp) [.slice a12 TS.length c12, .slice b12 TT.length d12, .int .i64 TO] rfl; simpa only [setL, Nat.reduceAdd, List.set_cons_zero, List.set_cons_succ, List.cons_append, List.nil_append] using this)⟩
              case rest =>
                obtain ⟨rfl, a12, c12, b12, d12, F8⟩ := hcut
                clear F6 hxs d0_0 d0_1 d0_2 d0_3 d0_4 d0_5 d0_6 d0_7 d0_8 d0_9 d0_10
                have d0_0 := F8.out.c 0 0 rfl rfl
                have d0_1 := F8.out.c 0 1 rfl rfl
                have d0_2 := F8.out.c 0 2 rfl rfl
                have d0_3 := F8.out.c 0 3 rfl rfl
                have d0_4 := F8.out.c 0 4 rfl rfl
                have d0_5 := F8.out.c 0 5 rfl rfl
                have d0_6 := F8.out.c 0 6 rfl rfl
                have d0_7 := F8.out.c 0 7 rfl rfl
                have d0_8 := F8.out.c 0 8 rfl rfl
                have d0_9 := F8.out.c 0 9 rfl rfl
                have d0_10 := F8.out.c 0 10 rfl rfl
                obtain ⟨SB, hSB⟩ : ∃ x, slB sh p1 p2 p3 = x := ⟨_, rfl⟩
                have HSB := Lib.hid hSB
                have hl10 := g4
                clear hSB
                go_upto_region 19 with fail
                go_cut [97] from 62 to 97 (fun s97 wx => s97 = .bool SB ∧ Hid (Fr wo.heap.size wo wx [(wo.heap.size, [.slice a sh.length c, .slice b st.length d, .int .i64 off, .slice ad data.length cd, .slice ax axs.length cx, .slice as_ ss.length cs, .int .i64 p1, .int .i64 p2, .int .i64 p3, .slice tp tsh.length cp, .slice tq tys.length cq]), (X5, [.slice a5 sh.length c5, .slice b5 st.length d5, .int .i64 off]), (Y12, [.slice a12 TS.length c12, .slice b12 TT.length d12, .int .i64 TO]), (Y13, [.slice none 0 0, .slice none 0 0, .int .i64 0]), (Y14, [.slice none 0 0, .slice none 0 0, .int .i64 0]), (Y15, [.slice none 0 0, .slice none 0 0, .int .i64 0]), (Y16, [.slice none 0 0, .slice none 0 0, .int .i64 0])] [(.i64, a, sh), (.i64, b, st), (.i64, ax, axs), (.i64, as_, ss)] [⟨3, .slice a5 sh.length c5, sh.length, sh.map (Value.int .i64)⟩, ⟨3, .slice b5 st.length d5, st.length, st.map (Value.int .i64)⟩, ⟨3, .slice a12 TS.length c12, TS.length, TS.map (Value.int .i64)⟩, ⟨3, .slice b12 TT.length d12, TT.length, TT.map (Value.int .i64)⟩] []))
                case first =>
                  by_cases s0 : 0 ≤ p1
                  · skip
                    by_cases s1 : p1 < sh.length
                    · skip
                      by_cases s2 : 0 ≤ p2
                      · skip
                        by_cases s3 : p2 < p3
                        · skip
                          obtain ⟨m, hm⟩ : ∃ m : Nat, p1 = m := ⟨p1.toNat, by omega⟩
                          subst hm
                          have hml : m < sh.length := by omega
                          obtain ⟨ga, oa, haa, _, hca⟩ := (F8.out.l 0 rfl).cell m hml
                          obtain ⟨x, hx⟩ : ∃ x, sh[m]?.getD 0 = x := ⟨_, rfl⟩
                          rw [hx] at hca
                          have HX := Lib.hid hx
                          have HAA := Lib.hid haa
                          clear hx
                          by_cases s4 : p3 ≤ x
                          · skip
                            have hsb : SB = true := by rw [← HSB.out]; unfold slB; rw [Int.toNat_natCast, HX.out, decide_eq_true s0, decide_eq_true s1, decide_eq_true s2, decide_eq_true s3, decide_eq_true s4]; rfl
                            have HSBF := Lib.hid hsb
                            clear hsb
                            have d4 : decide (p3 ≤ x) = true := decide_eq_true s4
                            have d3 : decide (p2 < p3) = true := decide_eq_true s3
                            have d2 : decide (0 ≤ p2) = true := decide_eq_true s2
                            have d1 : decide ((m : Int) < (sh.length : Int)) = true := decide_eq_true s1
                            have d1b : decide (m < sh.length) = true := decide_eq_true hml
                            subst haa
                            go_quiet (fail)
                            have F9 := Lib.hid (F8.out.drewN nq)
                            go_wp2
                            go_meet
                            exact ⟨by rw [HSBF.out], F9⟩
                          · skip
                            have hsb : SB = false := by rw [← HSB.out]; unfold slB; rw [Int.toNat_natCast, HX.out, decide_eq_false s4]; simp
                            have HSBF := Lib.hid hsb
                            clear hsb
                            have d4 : decide (p3 ≤ x) = false := decide_eq_false s4
                            have d3 : decide (p2 < p3) = true := decide_eq_true s3
                            have d2 : decide (0 ≤ p2) = true := decide_eq_true s2
                            have d1 : decide ((m : Int) < (sh.length : Int)) = true := decide_eq_true s1
                            have d1b : decide (m < sh.length) = true := decide_eq_true hml
                            subst haa
                            go_quiet (fail)
                            have F9 := Lib.hid (F8.out.drewN nq)
                            go_wp2
                            go_meet
                            exact ⟨by rw [HSBF.out], F9⟩
                        · skip
                          have hsb : SB = false := by rw [← HSB.out]; unfold slB; simp only [Bool.and_eq_false_iff, decide_eq_false_iff_not]; omega
                          have d3 : decide (p2 < p3) = false := decide_eq_false s3
                          have d2 : decide (0 ≤ p2) = true := decide_eq_true s2
                          have d1 : decide (p1 < (sh.length : Int)) = true := decide_eq_true s1
                          have d0 : decide (0 ≤ p1) = true := decide_eq_true s0
                          have HSBF := Lib.hid hsb
                          clear hsb
                          go_quiet (fail)
                          have F9 := Lib.hid (F8.out.drewN nq)
                          go_wp2
                          go_meet
                          exact ⟨by rw [HSBF.out], F9⟩
                      · skip
                        have hsb : SB = false := by rw [← HSB.out]; unfold slB; simp only [Bool.and_eq_false_iff, decide_eq_false_iff_not]; omega
                        have d2 : decide (0 ≤ p2) = false := decide_eq_false s2
                        have d1 : decide (p1 < (sh.length : Int)) = true := decide_eq_true s1
                        have d0 : decide (0 ≤ p1) = true := decide_eq_true s0
                        have HSBF := Lib.hid hsb
                        clear hsb
                        go_quiet (fail)
                        have F9 := Lib.hid (F8.out.drewN nq)
                        go_wp2
                        go_meet
                        exact ⟨by rw [HSBF.out], F9⟩
                    · skip
                      have hsb : SB = false := by rw [← HSB.out]; unfold slB; simp only [Bool.and_eq_false_iff, decide_eq_false_iff_not]; omega
                      have d1 : decide (p1 < (sh.length : Int)) = false := decide_eq_false s1
                      have d0 : decide (0 ≤ p1) = true := decide_eq_true s0
                      have HSBF := Lib.hid hsb
                      clear hsb
                      go_quiet (fail)
                      have F9 := Lib.hid (F8.out.drewN nq)
                      go_wp2
                      go_meet
                      exact ⟨by rw [HSBF.out], F9⟩
                  · skip
                    have hsb : SB = false := by rw [← HSB.out]; unfold slB; simp only [Bool.and_eq_false_iff, decide_eq_false_iff_not]; omega
                    have d0 : decide (0 ≤ p1) = false := decide_eq_false s0
                    have HSBF := Lib.hid hsb
                    clear hsb
                    go_quiet (fail)
                    have F9 := Lib.hid (F8.out.drewN nq)
                    go_wp2
                    go_meet
                    exact ⟨by rw [HSBF.out], F9⟩
                case rest =>
                  obtain ⟨rfl, F9⟩ := hcut
                  clear F8 d0_0 d0_1 d0_2 d0_3 d0_4 d0_5 d0_6 d0_7 d0_8 d0_9 d0_10
                  have d0_0 := F9.out.c 0 0 rfl rfl
                  have d0_1 := F9.out.c 0 1 rfl rfl
                  have d0_2 := F9.out.c 0 2 rfl rfl
                  have d0_3 := F9.out.c 0 3 rfl rfl
                  have d0_4 := F9.out.c 0 4 rfl rfl
                  have d0_5 := F9.out.c 0 5 rfl rfl
                  have d0_6 := F9.out.c 0 6 rfl rfl
                  have d0_7 := F9.out.c 0 7 rfl rfl
                  have d0_8 := F9.out.c 0 8 rfl rfl
                  have d0_9 := F9.out.c 0 9 rfl rfl
                  have d0_10 := F9.out.c 0 10 rfl rfl
                  go_upto_if 97 with fail
                  go_cut [8] from 98 to 106 (fun s8 wx => s8 = .int .i64 SZ ∧ ∃ a13 c13 b13 d13, Hid (Fr wo.heap.size wo wx [(wo.heap.size, [.slice a sh.length c, .slice b st.length d, .int .i64 off, .slice ad data.length cd, .slice ax axs.length cx, .slice as_ ss.length cs, .int .i64 p1, .int .i64 p2, .int .i64 p3, .slice tp tsh.length cp, .slice tq tys.length cq]), (X5, [.slice a5 sh.length c5, .slice b5 st.length d5, .int .i64 off]), (Y12, [.slice a12 TS.length c12, .slice b12 TT.length d12, .int .i64 TO]), (Y13, [.slice a13 SS.length c13, .slice b13 ST.length d13, .int .i64 SO]), (Y14, [.slice none 0 0, .slice none 0 0, .int .i64 0]), (Y15, [.slice none 0 0, .slice none 0 0, .int .i64 0]), (Y16, [.slice none 0 0, .slice none 0 0, .int .i64 0])] [(.i64, a, sh), (.i64, b, st), (.i64, ax, axs), (.i64, as_, ss)] [⟨3, .slice a5 sh.length c5, sh.length, sh.map (Value.int .i64)⟩, ⟨3, .slice b5 st.length d5, st.length, st.map (Value.int .i64)⟩, ⟨3, .slice a12 TS.length c12, TS.length, TS.map (Value.int .i64)⟩, ⟨3, .slice b12 TT.length d12, TT.length, TT.map (Value.int .i64)⟩, ⟨3, .slice a13 SS.length c13, SS.length, SS.map (Value.int .i64)⟩, ⟨3, .slice b13 ST.length d13, ST.length, ST.map (Value.int .i64)⟩] []))
                  case first =>
                    cases SB with
                    | false =>
                      have hz1 : SZ = 2 := by rw [← ESZ.out]; unfold slZ; rw [HVB.out, HSB.out]; rfl
                      have HZ1 := Lib.hid hz1
                      clear hz1 d0_0 d0_1 d0_2 d0_3 d0_4 d0_5 d0_6 d0_7 d0_8 d0_9 d0_10
                      go_wp2
                      go_meet
                      have n1 := HNS.out (by rw [HZ1.out]; decide)
                      exact ⟨by rw [HZ1.out], none, 0, none, 0, Lib.hid (by rw [n1.1, n1.2.1, n1.2.2]; have h9 := (F9.out.addNil 3).addNil 3; simpa only [List.append_assoc, List.cons_append, List.nil_append, List.map_nil, List.length_nil] using h9)⟩
                    | true =>
                      have hq := HSB.out
                      unfold slB at hq
                      simp only [Bool.and_eq_true, decide_eq_true_eq] at hq
                      obtain ⟨s0, s1, s2, s3, s4⟩ := hq
                      obtain ⟨m, hm⟩ : ∃ k : Nat, p1 = k := ⟨p1.toNat, by omega⟩
                      obtain ⟨f_, hf_⟩ : ∃ k : Nat, p2 = k := ⟨p2.toNat, by omega⟩
                      obtain ⟨t_, ht_⟩ : ∃ k : Nat, p3 = k := ⟨p3.toNat, by omega⟩
                      subst hm
                      subst hf_
                      subst ht_
                      rw [Int.toNat_natCast] at s4
                      have hz1 : SZ = 0 := by rw [← ESZ.out]; unfold slZ; rw [if_pos HVB.out, if_pos HSB.out]
                      have HZ1 := Lib.hid hz1
                      have hrt := fun W (h : Ints .i64 W W.heap.size a sh) (h2 : Ints .i64 W W.heap.size b st) => rslice_any a b c d sh st off m f_ t_ W h h2 HVB.out (by omega) (by omega) s4
                      have e1 : sh.set m ((t_ : Int) - (f_ : Int)) = SS := by rw [← ESS.out, hz1]; rfl
                      have e2 : st = ST := by rw [← EST.out, hz1]; rfl
                      have e3 : off + (f_ : Int) * (st[m]?.getD 0) = SO := by rw [← ESO.out, hz1]; rfl
                      have hrt2 : ∀ W, Ints .i64 W W.heap.size a sh → Ints .i64 W W.heap.size b st → Calls Try.prog 37 #[.agg #[.slice a sh.length c, .slice b st.length d, .int .i64 off], .int .i64 (m : Int), .int .i64 (f_ : Int), .int .i64 (t_ : Int)] W (RetVO W SS ST SO) := fun W h h2 => by have := hrt W h h2; rw [e1, e3] at this; unfold RetVO at this ⊢; rw [← e2]; exact this
                      have HRT := Lib.hid hrt2
                      clear hrt hrt2 e1 e2 e3 hz1
                      go_wp2_with (go_at_call 37; refine (HRT.out _ (F9.out.lw 0 rfl) (F9.out.lw 1 rfl)).mono ?_; rintro e wz ⟨a13, c13, b13, d13, rfl, hf⟩; have FZ := Lib.hid (F9.out.join hf); simp only [List.cons_append, List.nil_append] at FZ; clear hf F9 d0_0 d0_1 d0_2 d0_3 d0_4 d0_5 d0_6 d0_7 d0_8 d0_9 d0_10; have z3_0 := FZ.out.c 3 0 rfl rfl; have z3_1 := FZ.out.c 3 1 rfl rfl; have z3_2 := FZ.out.c 3 2 rfl rfl; have zf3_0 := FZ.out.f 3 0 rfl rfl; have zf3_1 := FZ.out.f 3 1 rfl rfl; have zf3_2 := FZ.out.f 3 2 rfl rfl)
                      go_meet
                      exact ⟨by rw [HZ1.out], a13, c13, b13, d13, Lib.hid (by have := FZ.out.set 3 rfl (by simp) [.slice a13 SS.length c13, .slice b13 ST.length d13, .int .i64 SO] rfl; simpa only [setL, Nat.reduceAdd, List.set_cons_zero, List.set_cons_succ, List.cons_append, List.nil_append] using this)⟩
                  case rest =>
                    obtain ⟨rfl, a13, c13, b13, d13, F10⟩ := hcut
                    clear F9 d0_0 d0_1 d0_2 d0_3 d0_4 d0_5 d0_6 d0_7 d0_8 d0_9 d0_10
                    go_wp2
                    go_meet
                    exact ⟨rfl, rfl, a12, c12, b12, d12, a13, c13, b13, d13, F10⟩
          case rest =>
            obtain ⟨rfl, rfl, a12, c12, b12, d12, a13, c13, b13, d13, F7⟩ := hcut
            clear F6
            have hrm := fun W (h : Ints .i64 W W.heap.size as_ ss) => rmay_any as_ cs _ ss W h
            obtain ⟨gb, hgb⟩ : ∃ x, goodB ss = x := ⟨_, rfl⟩
            rw [hgb] at hrm
            have HGB := Lib.hid hgb
            obtain ⟨CZ, hCZ⟩ : ∃ x : Int, (if gb = true then BZ else 1) = x := ⟨_, rfl⟩
            have ECZ := Lib.hid hCZ
            clear hgb hCZ
            have d0_0 := F7.out.c 0 0 rfl rfl
            have d0_1 := F7.out.c 0 1 rfl rfl
            have d0_2 := F7.out.c 0 2 rfl rfl
            have d0_3 := F7.out.c 0 3 rfl rfl
            have d0_4 := F7.out.c 0 4 rfl rfl
            have d0_5 := F7.out.c 0 5 rfl rfl
            have d0_6 := F7.out.c 0 6 rfl rfl
            have d0_7 := F7.out.c 0 7 rfl rfl
            have d0_8 := F7.out.c 0 8 rfl rfl
            have d0_9 := F7.out.c 0 9 rfl rfl
            have d0_10 := F7.out.c 0 10 rfl rfl
            go_upto_if 110 with (go_at_call 31; refine (hrm _ (F7.out.lw 3 rfl)).mono ?_; rintro e w' ⟨rfl, rfl⟩; skip)
            clear hrm
            go_cut [9, 10, 11] from 111 to 113 (fun s9 s10 s11 wx => s9 = .int .i64 CZ ∧ s10 = .int .i64 CZ ∧ s11 = .int .i64 OZ ∧ ∃ a16 c16 b16 d16, Hid (Fr wo.heap.size wo wx [(wo.heap.size, [.slice a sh.length c, .slice b st.length d, .int .i64 off, .slice ad data.length cd, .slice ax axs.length cx, .slice as_ ss.length cs, .int .i64 p1, .int .i64 p2, .int .i64 p3, .slice tp tsh.length cp, .slice tq tys.length cq]), (X5, [.slice a5 sh.length c5, .slice b5 st.length d5, .int .i64 off]), (Y12, [.slice a12 TS.length c12, .slice b12 TT.length d12, .int .i64 TO]), (Y13, [.slice a13 SS.length c13, .slice b13 ST.length d13, .int .i64 SO]), (Y14, [.slice none 0 0, .slice none 0 0, .int .i64 0]), (Y15, [.slice none 0 0, .slice none 0 0, .int .i64 0]), (Y16, [.slice a16 OS.length c16, .slice b16 OT.length d16, .int .i64 0])] [(.i64, a, sh), (.i64, b, st), (.i64, ax, axs), (.i64, as_, ss)] [⟨3, .slice a5 sh.length c5, sh.length, sh.map (Value.int .i64)⟩, ⟨3, .slice b5 st.length d5, st.length, st.map (Value.int .i64)⟩, ⟨3, .slice a12 TS.length c12, TS.length, TS.map (Value.int .i64)⟩, ⟨3, .slice b12 TT.length d12, TT.length, TT.map (Value.int .i64)⟩, ⟨3, .slice a13 SS.length c13, SS.length, SS.map (Value.int .i64)⟩, ⟨3, .slice b13 ST.length d13, ST.length, ST.map (Value.int .i64)⟩, ⟨3, .slice a16 OS.length c16, OS.length, OS.map (Value.int .i64)⟩, ⟨3, .slice b16 OT.length d16, OT.length, OT.map (Value.int .i64)⟩] []))
            case first =>
              cases gb with
              | false =>
                have hz1 : OZ = 1 := by rw [← EOZ.out]; unfold ofZ; rw [HGB.out]; rfl
                have HZ1 := Lib.hid hz1
                have HC1 : Hid (CZ = 1) := Lib.hid (by rw [← ECZ.out]; rfl)
                clear hz1 d0_0 d0_1 d0_2 d0_3 d0_4 d0_5 d0_6 d0_7 d0_8 d0_9 d0_10
                go_wp2
                go_meet
                have n1 := HNO.out (by rw [HZ1.out]; decide)
                exact ⟨by rw [HC1.out], by rw [HC1.out], by rw [HZ1.out], none, 0, none, 0, Lib.hid (by rw [n1.1, n1.2.1]; have h9 := (F7.out.addNil 3).addNil 3; simpa only [List.append_assoc, List.cons_append, List.nil_append, List.map_nil, List.length_nil] using h9)⟩
              | true =>
                have HC1 : Hid (CZ = BZ) := Lib.hid (by rw [← ECZ.out]; rfl)
                have hz1 : OZ = 0 := by rw [← EOZ.out]; unfold ofZ; rw [if_pos HGB.out]
                have HZ1 := Lib.hid hz1
                have hrt := fun W (h : Ints .i64 W W.heap.size as_ ss) => rof_any as_ cs ss W h HGB.out
                have e1 : ss = OS := by rw [← EOS.out, hz1]; rfl
                have e2 : strI ss = OT := by rw [← EOT.out, hz1]; rfl
                have hrt2 : ∀ W, Ints .i64 W W.heap.size as_ ss → Calls Try.prog 38 #[.slice as_ ss.length cs] W (RetVO W OS OT 0) := fun W h => by have := hrt W h; rw [e2] at this; unfold RetVO at this ⊢; rw [← e1]; exact this
                have HRT := Lib.hid hrt2
                clear hrt hrt2 e1 e2 hz1
                go_wp2_with (go_at_call 38; refine (HRT.out _ (F7.out.lw 3 rfl)).mono ?_; rintro e wz ⟨a16, c16, b16, d16, rfl, hf⟩; have FZ := Lib.hid (F7.out.join hf); simp only [List.cons_append, List.nil_append] at FZ; clear hf F7 d0_0 d0_1 d0_2 d0_3 d0_4 d0_5 d0_6 d0_7 d0_8 d0_9 d0_10; have z6_0 := FZ.out.c 6 0 rfl rfl; have z6_1 := FZ.out.c 6 1 rfl rfl; have z6_2 := FZ.out.c 6 2 rfl rfl; have zf6_0 := FZ.out.f 6 0 rfl rfl; have zf6_1 := FZ.out.f 6 1 rfl rfl; have zf6_2 := FZ.out.f 6 2 rfl rfl)
                go_meet
                exact ⟨by rw [HC1.out], by rw [HC1.out], by rw [HZ1.out], a16, c16, b16, d16, Lib.hid (by have := FZ.out.set 6 rfl (by simp) [.slice a16 OS.length c16, .slice b16 OT.length d16, .int .i64 0] rfl; simpa only [setL, Nat.reduceAdd, List.set_cons_zero, List.set_cons_succ, List.cons_append, List.nil_append] using this)⟩
            case rest =>
              obtain ⟨rfl, rfl, rfl, a16, c16, b16, d16, F11⟩ := hcut
              clear F7 d0_0 d0_1 d0_2 d0_3 d0_4 d0_5 d0_6 d0_7 d0_8 d0_9 d0_10
              go_upto_if 115 with fail
              go_cut [9, 10] from 116 to 142 (fun s9 s10 wx => s9 = .int .i64 WZ ∧ s10 = .int .i64 RZ ∧ ∃ a14 c14 b14 d14 a15 c15 b15 d15, Hid (Fr wo.heap.size wo wx [(wo.heap.size, [.slice a sh.length c, .slice b st.length d, .int .i64 off, .slice ad data.length cd, .slice ax axs.length cx, .slice as_ ss.length cs, .int .i64 p1, .int .i64 p2, .int .i64 p3, .slice tp tsh.length cp, .slice tq tys.length cq]), (X5, [.slice a5 sh.length c5, .slice b5 st.length d5, .int .i64 off]), (Y12, [.slice a12 TS.length c12, .slice b12 TT.length d12, .int .i64 TO]), (Y13, [.slice a13 SS.length c13, .slice b13 ST.length d13, .int .i64 SO]), (Y14, [.slice a14 WS.length c14, .slice b14 WT.length d14, .int .i64 WO]), (Y15, [.slice a15 RS.length c15, .slice b15 RT.length d15, .int .i64 0]), (Y16, [.slice a16 OS.length c16, .slice b16 OT.length d16, .int .i64 0])] [(.i64, a, sh), (.i64, b, st), (.i64, ax, axs), (.i64, as_, ss)] [⟨3, .slice a5 sh.length c5, sh.length, sh.map (Value.int .i64)⟩, ⟨3, .slice b5 st.length d5, st.length, st.map (Value.int .i64)⟩, ⟨3, .slice a12 TS.length c12, TS.length, TS.map (Value.int .i64)⟩, ⟨3, .slice b12 TT.length d12, TT.length, TT.map (Value.int .i64)⟩, ⟨3, .slice a13 SS.length c13, SS.length, SS.map (Value.int .i64)⟩, ⟨3, .slice b13 ST.length d13, ST.length, ST.map (Value.int .i64)⟩, ⟨3, .slice a16 OS.length c16, OS.length, OS.map (Value.int .i64)⟩, ⟨3, .slice b16 OT.length d16, OT.length, OT.map (Value.int .i64)⟩, ⟨3, .slice a14 WS.length c14, WS.length, WS.map (Value.int .i64)⟩, ⟨3, .slice b14 WT.length d14, WT.length, WT.map (Value.int .i64)⟩, ⟨3, .slice a15 RS.length c15, RS.length, RS.map (Value.int .i64)⟩, ⟨3, .slice b15 RT.length d15, RT.length, RT.map (Value.int .i64)⟩] []))
              case first =>
                by_cases hb2 : vb = true ∧ gb = true
                · skip
                  obtain ⟨rfl, rfl⟩ := hb2
                  obtain rfl : CZ = 0 := by rw [← ECZ.out, ← EBZ.out]; rfl
                  have d0_0 := F11.out.c 0 0 rfl rfl
                  have d0_1 := F11.out.c 0 1 rfl rfl
                  have d0_2 := F11.out.c 0 2 rfl rfl
                  have d0_3 := F11.out.c 0 3 rfl rfl
                  have d0_4 := F11.out.c 0 4 rfl rfl
                  have d0_5 := F11.out.c 0 5 rfl rfl
                  have d0_6 := F11.out.c 0 6 rfl rfl
                  have d0_7 := F11.out.c 0 7 rfl rfl
                  have d0_8 := F11.out.c 0 8 rfl rfl
                  have d0_9 := F11.out.c 0 9 rfl rfl
                  have d0_10 := F11.out.c 0 10 rfl rfl
                  have HG0 := Lib.hid (viewB_iff.1 HVB.out).1
                  have hgo := fun W (h : Ints .i64 W W.heap.size a sh) (h2 : Ints .i64 W W.heap.size as_ ss) => goes_any a as_ c cs sh ss W h h2 HG0.out HGB.out
                  obtain ⟨go, hgb⟩ : ∃ x, goesB sh ss = x := ⟨_, rfl⟩
                  rw [hgb] at hgo
                  have HGO := Lib.hid hgb
                  clear hgb
                  go_upto_if 121 with (go_at_call 39; refine (hgo _ (F11.out.lw 0 rfl) (F11.out.lw 3 rfl)).mono ?_; rintro e w7 ⟨rfl, hb⟩; have F13 := Lib.hid (F11.out.next hb); clear hb F11 d0_0 d0_1 d0_2 d0_3 d0_4 d0_5 d0_6 d0_7 d0_8 d0_9 d0_10)
                  clear hgo
                  have d0_0 := F13.out.c 0 0 rfl rfl
                  have d0_1 := F13.out.c 0 1 rfl rfl
                  have d0_2 := F13.out.c 0 2 rfl rfl
                  have d0_3 := F13.out.c 0 3 rfl rfl
                  have d0_4 := F13.out.c 0 4 rfl rfl
                  have d0_5 := F13.out.c 0 5 rfl rfl
                  have d0_6 := F13.out.c 0 6 rfl rfl
                  have d0_7 := F13.out.c 0 7 rfl rfl
                  have d0_8 := F13.out.c 0 8 rfl rfl
                  have d0_9 := F13.out.c 0 9 rfl rfl
                  have d0_10 := F13.out.c 0 10 rfl rfl
                  go_cut [9] from 122 to 126 (fun s9 wx => s9 = .int .i64 WZ ∧ ∃ a14 c14 b14 d14, Hid (Fr wo.heap.size wo wx [(wo.heap.size, [.slice a sh.length c, .slice b st.length d, .int .i64 off, .slice ad data.length cd, .slice ax axs.length cx, .slice as_ ss.length cs, .int .i64 p1, .int .i64 p2, .int .i64 p3, .slice tp tsh.length cp, .slice tq tys.length cq]), (X5, [.slice a5 sh.length c5, .slice b5 st.length d5, .int .i64 off]), (Y12, [.slice a12 TS.length c12, .slice b12 TT.length d12, .int .i64 TO]), (Y13, [.slice a13 SS.length c13, .slice b13 ST.length d13, .int .i64 SO]), (Y14, [.slice a14 WS.length c14, .slice b14 WT.length d14, .int .i64 WO]), (Y15, [.slice none 0 0, .slice none 0 0, .int .i64 0]), (Y16, [.slice a16 OS.length c16, .slice b16 OT.length d16, .int .i64 0])] [(.i64, a, sh), (.i64, b, st), (.i64, ax, axs), (.i64, as_, ss)] [⟨3, .slice a5 sh.length c5, sh.length, sh.map (Value.int .i64)⟩, ⟨3, .slice b5 st.length d5, st.length, st.map (Value.int .i64)⟩, ⟨3, .slice a12 TS.length c12, TS.length, TS.map (Value.int .i64)⟩, ⟨3, .slice b12 TT.length d12, TT.length, TT.map (Value.int .i64)⟩, ⟨3, .slice a13 SS.length c13, SS.length, SS.map (Value.int .i64)⟩, ⟨3, .slice b13 ST.length d13, ST.length, ST.map (Value.int .i64)⟩, ⟨3, .slice a16 OS.length c16, OS.length, OS.map (Value.int .i64)⟩, ⟨3, .slice b16 OT.length d16, OT.length, OT.map (Value.int .i64)⟩, ⟨3, .slice a14 WS.length c14, WS.length, WS.map (Value.int .i64)⟩, ⟨3, .slice b14 WT.length d14, WT.length, WT.map (Value.int .i64)⟩] []))
                  case first =>
                    cases go with
                    | false =>
                      have hz1 : WZ = 2 := by rw [← EWZ.out]; unfold wdZ; rw [HVB.out, HGB.out, HGO.out]; rfl
                      have HZ1 := Lib.hid hz1
                      clear hz1 d0_0 d0_1 d0_2 d0_3 d0_4 d0_5 d0_6 d0_7 d0_8 d0_9 d0_10
                      go_wp2
                      go_meet
                      have n1 := HNW.out (by rw [HZ1.out]; decide)
                      exact ⟨by rw [HZ1.out], none, 0, none, 0, Lib.hid (by rw [n1.1, n1.2.1, n1.2.2]; have h9 := (F13.out.addNil 3).addNil 3; simpa only [List.append_assoc, List.cons_append, List.nil_append, List.map_nil, List.length_nil] using h9)⟩
                    | true =>
                      have hz1 : WZ = 0 := by rw [← EWZ.out]; unfold wdZ; rw [HVB.out, HGB.out, HGO.out]; rfl
                      have HZ1 := Lib.hid hz1
                      have hrt := fun W (h : Ints .i64 W W.heap.size a sh) (h2 : Ints .i64 W W.heap.size b st) (h3 : Ints .i64 W W.heap.size as_ ss) => rwiden_any a b as_ c d cs sh st ss off W h h2 h3 HVB.out HGB.out HGO.out
                      have e1 : ss = WS := by rw [← EWS.out, hz1]; rfl
                      have e2 : widL sh st ss = WT := by rw [← EWT.out, hz1]; rfl
                      have e3 : off = WO := by rw [← EWO.out, hz1]; rfl
                      have hrt2 : ∀ W, Ints .i64 W W.heap.size a sh → Ints .i64 W W.heap.size b st → Ints .i64 W W.heap.size as_ ss → Calls Try.prog 40 #[.agg #[.slice a sh.length c, .slice b st.length d, .int .i64 off], .slice as_ ss.length cs] W (RetVO W WS WT WO) := fun W h h2 h3 => by have := hrt W h h2 h3; rw [e2] at this; unfold RetVO at this ⊢; rw [← e3, ← e1]; exact this
                      have HRT := Lib.hid hrt2
                      clear hrt hrt2 e1 e2 e3 hz1
                      go_wp2_with (go_at_call 40; refine (HRT.out _ (F13.out.lw 0 rfl) (F13.out.lw 1 rfl) (F13.out.lw 3 rfl)).mono ?_; rintro e wz ⟨a14, c14, b14, d14, rfl, hf⟩; have FZ := Lib.hid (F13.out.join hf); simp only [List.cons_append, List.nil_append] at FZ; clear hf F13 d0_0 d0_1 d0_2 d0_3 d0_4 d0_5 d0_6 d0_7 d0_8 d0_9 d0_10; have z4_0 := FZ.out.c 4 0 rfl rfl; have z4_1 := FZ.out.c 4 1 rfl rfl; have z4_2 := FZ.out.c 4 2 rfl rfl; have zf4_0 := FZ.out.f 4 0 rfl rfl; have zf4_1 := FZ.out.f 4 1 rfl rfl; have zf4_2 := FZ.out.f 4 2 rfl rfl)
                      go_meet
                      exact ⟨by rw [HZ1.out], a14, c14, b14, d14, Lib.hid (by have := FZ.out.set 4 rfl (by simp) [.slice a14 WS.length c14, .slice b14 WT.length d14, .int .i64 WO] rfl; simpa only [setL, Nat.reduceAdd, List.set_cons_zero, List.set_cons_succ, List.cons_append, List.nil_append] using this)⟩
                  case rest =>
                    obtain ⟨rfl, a14, c14, b14, d14, F14⟩ := hcut
                    clear F13 d0_0 d0_1 d0_2 d0_3 d0_4 d0_5 d0_6 d0_7 d0_8 d0_9 d0_10
                    obtain ⟨PX, hPX⟩ : ∃ x, prodI sh = x := ⟨_, rfl⟩
                    obtain ⟨PY, hPY⟩ : ∃ x, prodI ss = x := ⟨_, rfl⟩
                    have HCX := Lib.hid (fun W (h : Ints .i64 W W.heap.size a sh) => rcount_any a c W.heap.size sh W h (goodB_dims HG0.out))
                    have HCY := Lib.hid (fun W (h : Ints .i64 W W.heap.size as_ ss) => rcount_any as_ cs W.heap.size ss W h (goodB_dims HGB.out))
                    rw [countE_good HG0.out, hPX] at HCX
                    rw [countE_good HGB.out, hPY] at HCY
                    have HPXY := Lib.hid (And.intro hPX hPY)
                    clear hPX hPY
                    obtain ⟨PB, hPB⟩ : ∃ x, (decide (PX = PY) && plB sh st off) = x := ⟨_, rfl⟩
                    have HPB := Lib.hid hPB
                    clear hPB
                    go_upto_region 33 with fail
                    have d0_0 := F14.out.c 0 0 rfl rfl
                    have d0_1 := F14.out.c 0 1 rfl rfl
                    have d0_2 := F14.out.c 0 2 rfl rfl
                    have d0_3 := F14.out.c 0 3 rfl rfl
                    have d0_4 := F14.out.c 0 4 rfl rfl
                    have d0_5 := F14.out.c 0 5 rfl rfl
                    have d0_6 := F14.out.c 0 6 rfl rfl
                    have d0_7 := F14.out.c 0 7 rfl rfl
                    have d0_8 := F14.out.c 0 8 rfl rfl
                    have d0_9 := F14.out.c 0 9 rfl rfl
                    have d0_10 := F14.out.c 0 10 rfl rfl
                    go_cut [139] from 127 to 139 (fun s139 wx => s139 = .bool PB ∧ Hid (Fr wo.heap.size wo wx [(wo.heap.size, [.slice a sh.length c, .slice b st.length d, .int .i64 off, .slice ad data.length cd, .slice ax axs.length cx, .slice as_ ss.length cs, .int .i64 p1, .int .i64 p2, .int .i64 p3, .slice tp tsh.length cp, .slice tq tys.length cq]), (X5, [.slice a5 sh.length c5, .slice b5 st.length d5, .int .i64 off]), (Y12, [.slice a12 TS.length c12, .slice b12 TT.length d12, .int .i64 TO]), (Y13, [.slice a13 SS.length c13, .slice b13 ST.length d13, .int .i64 SO]), (Y14, [.slice a14 WS.length c14, .slice b14 WT.length d14, .int .i64 WO]), (Y15, [.slice none 0 0, .slice none 0 0, .int .i64 0]), (Y16, [.slice a16 OS.length c16, .slice b16 OT.length d16, .int .i64 0])] [(.i64, a, sh), (.i64, b, st), (.i64, ax, axs), (.i64, as_, ss)] [⟨3, .slice a5 sh.length c5, sh.length, sh.map (Value.int .i64)⟩, ⟨3, .slice b5 st.length d5, st.length, st.map (Value.int .i64)⟩, ⟨3, .slice a12 TS.length c12, TS.length, TS.map (Value.int .i64)⟩, ⟨3, .slice b12 TT.length d12, TT.length, TT.map (Value.int .i64)⟩, ⟨3, .slice a13 SS.length c13, SS.length, SS.map (Value.int .i64)⟩, ⟨3, .slice b13 ST.length d13, ST.length, ST.map (Value.int .i64)⟩, ⟨3, .slice a16 OS.length c16, OS.length, OS.map (Value.int .i64)⟩, ⟨3, .slice b16 OT.length d16, OT.length, OT.map (Value.int .i64)⟩, ⟨3, .slice a14 WS.length c14, WS.length, WS.map (Value.int .i64)⟩, ⟨3, .slice b14 WT.length d14, WT.length, WT.map (Value.int .i64)⟩] []))
                    case first =>
                      by_cases hxy : PX = PY
                      · skip
                        subst hxy
                        have hpb : plB sh st off = PB := by rw [← HPB.out]; simp
                        have hpl := fun W (h : Ints .i64 W W.heap.size a sh) (h2 : Ints .i64 W W.heap.size b st) => rplain_any a b c d sh st off W h h2 HG0.out
                        rw [hpb] at hpl
                        have HPL := Lib.hid hpl
                        clear hpl hpb
                        obtain ⟨W2, rfl⟩ : ∃ x : World, x = wc := ⟨_, rfl⟩
                        refine wp_region_parts2 (w := W2) 12 1 none [] [(fun u _ => u = .pointer (some ⟨wo.heap.size, 5, none⟩)), (fun u _ => u = .slice as_ ss.length cs), (fun u _ => u = .int .i64 PX), (fun u _ => u = .pointer (some ⟨wo.heap.size, 0, none⟩)), (fun u _ => u = .pointer (some ⟨wo.heap.size, 0, none⟩)), (fun u _ => u = .slice a sh.length c), (fun u _ => u = .int .i64 PX), (fun u _ => u = .bool true), (fun u _ => u = .bool true), (fun u _ => u = .pointer (some ⟨wo.heap.size, 0, none⟩)), (fun u _ => u = .agg #[.slice a sh.length c, .slice b st.length d, .int .i64 off]), (fun u _ => u = .bool PB)] [some 127, some 128, some 129, some 130, some 131, some 132, some 133, some 134, some 135, some 136, some 137, some 138, some 139] #[true, true, true, true, true, true, true, true, true, true, true, true, false] #[true, true, true, true, true, true, true, true, true, true, true, true, false] (by kernel_rfl) rfl (by kernel_rfl) (by kernel_rfl) rfl (by kernel_rfl) (by kernel_rfl) (.cons (carries_eq _) (.cons (carries_eq _) (.cons (carries_eq _) (.cons (carries_eq _) (.cons (carries_eq _) (.cons (carries_eq _) (.cons (carries_eq _) (.cons (carries_eq _) (.cons (carries_eq _) (.cons (carries_eq _) (.cons (carries_eq _) (.cons (carries_eq _) .nil)))))))))))) (fun vs b hvl hvb => ?_)
                        obtain ⟨x0, x1, x2, x3, x4, x5, x6, x7, x8, x9, x10, x11, x12, rfl⟩ : ∃ x0 x1 x2 x3 x4 x5 x6 x7 x8 x9 x10 x11 x12, vs = [x0, x1, x2, x3, x4, x5, x6, x7, x8, x9, x10, x11, x12] := lst13 hvl
                        clear hvl
                        simp only [putAll, Act.put, List.setIfInBounds_toArray, List.set_cons_zero, List.set_cons_succ] at hvb
                        subst hvb
                        refine ⟨(.snoc (.snoc (.snoc (.snoc (.snoc (.snoc (.snoc (.snoc (.snoc (.snoc (.snoc (.snoc .zero (PartOb.intro (d := (some 127)) (r := fun u _ => u = .pointer (some ⟨wo.heap.size, 5, none⟩)) rfl rfl rfl rfl ?po33x0)) (PartOb.intro (d := (some 128)) (r := fun u _ => u = .slice as_ ss.length cs) rfl rfl rfl rfl ?po33x1)) (PartOb.intro (d := (some 129)) (r := fun u _ => u = .int .i64 PX) rfl rfl rfl rfl ?po33x2)) (PartOb.intro (d := (some 130)) (r := fun u _ => u = .pointer (some ⟨wo.heap.size, 0, none⟩)) rfl rfl rfl rfl ?po33x3)) (PartOb.intro (d := (some 131)) (r := fun u _ => u = .pointer (some ⟨wo.heap.size, 0, none⟩)) rfl rfl rfl rfl ?po33x4)) (PartOb.intro (d := (some 132)) (r := fun u _ => u = .slice a sh.length c) rfl rfl rfl rfl ?po33x5)) (PartOb.intro (d := (some 133)) (r := fun u _ => u = .int .i64 PX) rfl rfl rfl rfl ?po33x6)) (PartOb.intro (d := (some 134)) (r := fun u _ => u = .bool true) rfl rfl rfl rfl ?po33x7)) (PartOb.intro (d := (some 135)) (r := fun u _ => u = .bool true) rfl rfl rfl rfl ?po33x8)) (PartOb.intro (d := (some 136)) (r := fun u _ => u = .pointer (some ⟨wo.heap.size, 0, none⟩)) rfl rfl rfl rfl ?po33x9)) (PartOb.intro (d := (some 137)) (r := fun u _ => u = .agg #[.slice a sh.length c, .slice b st.length d, .int .i64 off]) rfl rfl rfl rfl ?po33x10)) (PartOb.intro (d := (some 138)) (r := fun u _ => u = .bool PB) rfl rfl rfl rfl ?po33x11)), ?pend33, ?pfl33⟩
                        case po33x0 =>
                          intro w1 hb1 hd KK hK
                          clear hd
                          simp only [Act.put, List.setIfInBounds_toArray, List.set_cons_zero, List.set_cons_succ] at hK
                          go_simp
                          first | exact hK.out _ _ (Below.refl _ _) rfl | (have hk := hK.out _ _ (Below.refl _ _) rfl; revert hk; go_simp)
                        case po33x1 =>
                          intro w1 hb1 hd KK hK
                          have d0 : x0 = .pointer (some ⟨wo.heap.size, 5, none⟩) := hd 0 (by kernel_rfl)
                          clear hd
                          subst d0
                          have hF := F14.out.next hb1
                          have k5 := hF.c 0 5 rfl rfl
                          simp only [Act.put, List.setIfInBounds_toArray, List.set_cons_zero, List.set_cons_succ] at hK
                          go_simp
                          first | exact hK.out _ _ (Below.refl _ _) rfl | (have hk := hK.out _ _ (Below.refl _ _) rfl; revert hk; go_simp)
                        case po33x2 =>
                          intro w1 hb1 hd KK hK
                          have d1 : x1 = .slice as_ ss.length cs := hd 1 (by kernel_rfl)
                          clear hd
                          subst d1
                          simp only [Act.put, List.setIfInBounds_toArray, List.set_cons_zero, List.set_cons_succ] at hK
                          go_simp
                          go_at_call 27
                          refine (HCY.out w1 ((F14.out.next hb1).lw 3 rfl)).mono ?_
                          rintro e w2 ⟨rfl, rfl⟩
                          (try go_wp2_with fail)
                          first | exact hK.out _ _ (Below.refl _ _) rfl | (have hk := hK.out _ _ (Below.refl _ _) rfl; revert hk; go_simp)
                        case po33x3 =>
                          intro w1 hb1 hd KK hK
                          clear hd
                          simp only [Act.put, List.setIfInBounds_toArray, List.set_cons_zero, List.set_cons_succ] at hK
                          go_simp
                          first | exact hK.out _ _ (Below.refl _ _) rfl | (have hk := hK.out _ _ (Below.refl _ _) rfl; revert hk; go_simp)
                        case po33x4 =>
                          intro w1 hb1 hd KK hK
                          have d3 : x3 = .pointer (some ⟨wo.heap.size, 0, none⟩) := hd 3 (by kernel_rfl)
                          clear hd
                          subst d3
                          simp only [Act.put, List.setIfInBounds_toArray, List.set_cons_zero, List.set_cons_succ] at hK
                          go_simp
                          first | exact hK.out _ _ (Below.refl _ _) rfl | (have hk := hK.out _ _ (Below.refl _ _) rfl; revert hk; go_simp)
                        case po33x5 =>
                          intro w1 hb1 hd KK hK
                          have d4 : x4 = .pointer (some ⟨wo.heap.size, 0, none⟩) := hd 4 (by kernel_rfl)
                          clear hd
                          subst d4
                          have hF := F14.out.next hb1
                          have k0 := hF.c 0 0 rfl rfl
                          simp only [Act.put, List.setIfInBounds_toArray, List.set_cons_zero, List.set_cons_succ] at hK
                          go_simp
                          first | exact hK.out _ _ (Below.refl _ _) rfl | (have hk := hK.out _ _ (Below.refl _ _) rfl; revert hk; go_simp)
                        case po33x6 =>
                          intro w1 hb1 hd KK hK
                          have d2 : x2 = .int .i64 PX := hd 2 (by kernel_rfl)
                          have d5 : x5 = .slice a sh.length c := hd 5 (by kernel_rfl)
                          clear hd
                          subst d2
                          subst d5
                          simp only [Act.put, List.setIfInBounds_toArray, List.set_cons_zero, List.set_cons_succ] at hK
                          go_simp
                          go_at_call 27
                          refine (HCX.out w1 ((F14.out.next hb1).lw 0 rfl)).mono ?_
                          rintro e w2 ⟨rfl, rfl⟩
                          (try go_wp2_with fail)
                          first | exact hK.out _ _ (Below.refl _ _) rfl | (have hk := hK.out _ _ (Below.refl _ _) rfl; revert hk; go_simp)
                        case po33x7 =>
                          intro w1 hb1 hd KK hK
                          have d2 : x2 = .int .i64 PX := hd 2 (by kernel_rfl)
                          have d6 : x6 = .int .i64 PX := hd 6 (by kernel_rfl)
                          clear hd
                          subst d2
                          subst d6
                          simp only [Act.put, List.setIfInBounds_toArray, List.set_cons_zero, List.set_cons_succ] at hK
                          go_simp
                          first | exact hK.out _ _ (Below.refl _ _) rfl | (have hk := hK.out _ _ (Below.refl _ _) rfl; revert hk; go_simp)
                        case po33x8 =>
                          intro w1 hb1 hd KK hK
                          have d6 : x6 = .int .i64 PX := hd 6 (by kernel_rfl)
                          have d7 : x7 = .bool true := hd 7 (by kernel_rfl)
                          clear hd
                          subst d6
                          subst d7
                          simp only [Act.put, List.setIfInBounds_toArray, List.set_cons_zero, List.set_cons_succ] at hK
                          go_simp
                          first | exact hK.out _ _ (Below.refl _ _) rfl | (have hk := hK.out _ _ (Below.refl _ _) rfl; revert hk; go_simp)
                        case po33x9 =>
                          intro w1 hb1 hd KK hK
                          have d8 : x8 = .bool true := hd 8 (by kernel_rfl)
                          clear hd
                          subst d8
                          simp only [Act.put, List.setIfInBounds_toArray, List.set_cons_zero, List.set_cons_succ] at hK
                          go_simp
                          first | exact hK.out _ _ (Below.refl _ _) rfl | (have hk := hK.out _ _ (Below.refl _ _) rfl; revert hk; go_simp)
                        case po33x10 =>
                          intro w1 hb1 hd KK hK
                          have d8 : x8 = .bool true := hd 8 (by kernel_rfl)
                          have d9 : x9 = .pointer (some ⟨wo.heap.size, 0, none⟩) := hd 9 (by kernel_rfl)
                          clear hd
                          subst d8
                          subst d9
                          have hF := F14.out.next hb1
                          have k0 := hF.c 0 0 rfl rfl
                          have k1 := hF.c 0 1 rfl rfl
                          have k2 := hF.c 0 2 rfl rfl
                          simp only [Act.put, List.setIfInBounds_toArray, List.set_cons_zero, List.set_cons_succ] at hK
                          go_simp
                          first | exact hK.out _ _ (Below.refl _ _) rfl | (have hk := hK.out _ _ (Below.refl _ _) rfl; revert hk; go_simp)
                        case po33x11 =>
                          intro w1 hb1 hd KK hK
                          have d8 : x8 = .bool true := hd 8 (by kernel_rfl)
                          have d10 : x10 = .agg #[.slice a sh.length c, .slice b st.length d, .int .i64 off] := hd 10 (by kernel_rfl)
                          clear hd
                          subst d8
                          subst d10
                          simp only [Act.put, List.setIfInBounds_toArray, List.set_cons_zero, List.set_cons_succ] at hK
                          go_simp
                          go_at_call 41
                          refine (HPL.out w1 ((F14.out.next hb1).lw 0 rfl) ((F14.out.next hb1).lw 1 rfl)).mono ?_
                          rintro e w2 ⟨rfl, hb⟩
                          (try go_wp2_with fail)
                          first | exact hK.out _ _ hb rfl | (have hk := hK.out _ _ hb rfl; revert hk; go_simp)
                        case pfl33 => (intro f hf; cases hf)
                        case pend33 =>
                        intro w1 hb1 hR hD
                        have d0 : x0 = .pointer (some ⟨wo.heap.size, 5, none⟩) := hR 0 (by decide)
                        have d1 : x1 = .slice as_ ss.length cs := hR 1 (by decide)
                        have d2 : x2 = .int .i64 PX := hR 2 (by decide)
                        have d3 : x3 = .pointer (some ⟨wo.heap.size, 0, none⟩) := hR 3 (by decide)
                        have d4 : x4 = .pointer (some ⟨wo.heap.size, 0, none⟩) := hR 4 (by decide)
                        have d5 : x5 = .slice a sh.length c := hR 5 (by decide)
                        have d6 : x6 = .int .i64 PX := hR 6 (by decide)
                        have d7 : x7 = .bool true := hR 7 (by decide)
                        have d8 : x8 = .bool true := hR 8 (by decide)
                        have d9 : x9 = .pointer (some ⟨wo.heap.size, 0, none⟩) := hR 9 (by decide)
                        have d10 : x10 = .agg #[.slice a sh.length c, .slice b st.length d, .int .i64 off] := hR 10 (by decide)
                        have d11 : x11 = .bool PB := hR 11 (by decide)
                        clear hR hD
                        subst d0
                        subst d1
                        subst d2
                        subst d3
                        subst d4
                        subst d5
                        subst d6
                        subst d7
                        subst d8
                        subst d9
                        subst d10
                        subst d11
                        refine wpAny_ready (rs := [12]) (by kernel_rfl) (by simp) (AllReady.cons rfl (fun KK hK => ?_) AllReady.nil)
                        go_simp
                        refine hK _ _ ?_
                        clear hK KK
                        try simp only [putAll, Act.put, List.setIfInBounds_toArray, List.set_cons_zero, List.set_cons_succ]
                        refine wpAny_done (by kernel_rfl) ?_ _
                        have F15 := Lib.hid (F14.out.next hb1)
                        clear F14 hb1
                        go_wp2
                        go_meet
                        exact ⟨rfl, F15⟩
                      · skip
                        have hpb : PB = false := by rw [← HPB.out]; simp [hxy]
                        have HPBF := Lib.hid hpb
                        have hxd : decide (PY = PX) = false := decide_eq_false (fun e => hxy e.symm)
                        have hxd2 : (PY == PX) = false := by simpa using fun e : PY = PX => hxy e.symm
                        clear hpb
                        go_quiet (first | (go_at_call_of 27 (Value.slice as_ ss.length cs); exact quietSame (HCY.out _ ((F14.out.drewN _).lw 3 rfl))) | (go_at_call_of 27 (Value.slice a sh.length c); exact quietSame (HCX.out _ ((F14.out.drewN _).lw 0 rfl))))
                        have F15 := Lib.hid (F14.out.drewN nq)
                        go_wp2
                        go_meet
                        exact ⟨by rw [HPBF.out], F15⟩
                    case rest =>
                      obtain ⟨rfl, F15⟩ := hcut
                      clear F14 HCX HCY d0_0 d0_1 d0_2 d0_3 d0_4 d0_5 d0_6 d0_7 d0_8 d0_9 d0_10
                      go_upto_if 139 with fail
                      go_cut [10] from 140 to 142 (fun s10 wx => s10 = .int .i64 RZ ∧ ∃ a15 c15 b15 d15, Hid (Fr wo.heap.size wo wx [(wo.heap.size, [.slice a sh.length c, .slice b st.length d, .int .i64 off, .slice ad data.length cd, .slice ax axs.length cx, .slice as_ ss.length cs, .int .i64 p1, .int .i64 p2, .int .i64 p3, .slice tp tsh.length cp, .slice tq tys.length cq]), (X5, [.slice a5 sh.length c5, .slice b5 st.length d5, .int .i64 off]), (Y12, [.slice a12 TS.length c12, .slice b12 TT.length d12, .int .i64 TO]), (Y13, [.slice a13 SS.length c13, .slice b13 ST.length d13, .int .i64 SO]), (Y14, [.slice a14 WS.length c14, .slice b14 WT.length d14, .int .i64 WO]), (Y15, [.slice a15 RS.length c15, .slice b15 RT.length d15, .int .i64 0]), (Y16, [.slice a16 OS.length c16, .slice b16 OT.length d16, .int .i64 0])] [(.i64, a, sh), (.i64, b, st), (.i64, ax, axs), (.i64, as_, ss)] [⟨3, .slice a5 sh.length c5, sh.length, sh.map (Value.int .i64)⟩, ⟨3, .slice b5 st.length d5, st.length, st.map (Value.int .i64)⟩, ⟨3, .slice a12 TS.length c12, TS.length, TS.map (Value.int .i64)⟩, ⟨3, .slice b12 TT.length d12, TT.length, TT.map (Value.int .i64)⟩, ⟨3, .slice a13 SS.length c13, SS.length, SS.map (Value.int .i64)⟩, ⟨3, .slice b13 ST.length d13, ST.length, ST.map (Value.int .i64)⟩, ⟨3, .slice a16 OS.length c16, OS.length, OS.map (Value.int .i64)⟩, ⟨3, .slice b16 OT.length d16, OT.length, OT.map (Value.int .i64)⟩, ⟨3, .slice a14 WS.length c14, WS.length, WS.map (Value.int .i64)⟩, ⟨3, .slice b14 WT.length d14, WT.length, WT.map (Value.int .i64)⟩, ⟨3, .slice a15 RS.length c15, RS.length, RS.map (Value.int .i64)⟩, ⟨3, .slice b15 RT.length d15, RT.length, RT.map (Value.int .i64)⟩] []))
                      case first =>
                        have hrz : rsZ sh st off ss = if PB = true then 0 else 2 := by unfold rsZ; rw [HVB.out, HGB.out, ← HPB.out, ← HPXY.out.1, ← HPXY.out.2]; rfl
                        cases PB with
                        | false =>
                          have hz1 : RZ = 2 := by rw [← ERZ.out, hrz]; rfl
                          have HZ1 := Lib.hid hz1
                          clear hz1 hrz
                          go_wp2
                          go_meet
                          have n1 := HNR.out (by rw [HZ1.out]; decide)
                          exact ⟨by rw [HZ1.out], none, 0, none, 0, Lib.hid (by rw [n1.1, n1.2.1]; have h9 := (F15.out.addNil 3).addNil 3; simpa only [List.append_assoc, List.cons_append, List.nil_append, List.map_nil, List.length_nil] using h9)⟩
                        | true =>
                          have HRZ0 : Hid (rsZ sh st off ss = 0) := Lib.hid (by rw [hrz]; rfl)
                          clear hrz
                          have d0_0 := F15.out.c 0 0 rfl rfl
                          have d0_1 := F15.out.c 0 1 rfl rfl
                          have d0_2 := F15.out.c 0 2 rfl rfl
                          have d0_3 := F15.out.c 0 3 rfl rfl
                          have d0_4 := F15.out.c 0 4 rfl rfl
                          have d0_5 := F15.out.c 0 5 rfl rfl
                          have d0_6 := F15.out.c 0 6 rfl rfl
                          have d0_7 := F15.out.c 0 7 rfl rfl
                          have d0_8 := F15.out.c 0 8 rfl rfl
                          have d0_9 := F15.out.c 0 9 rfl rfl
                          have d0_10 := F15.out.c 0 10 rfl rfl
                          have hz1 : RZ = 0 := by rw [← ERZ.out]; exact HRZ0.out
                          have HZ1 := Lib.hid hz1
                          have hrt := fun W (h : Ints .i64 W W.heap.size as_ ss) => rof_any as_ cs ss W h HGB.out
                          have e1 : ss = RS := by rw [← ERS.out, hz1]; rfl
                          have e2 : strI ss = RT := by rw [← ERT.out, hz1]; rfl
                          have hrt2 : ∀ W, Ints .i64 W W.heap.size as_ ss → Calls Try.prog 38 #[.slice as_ ss.length cs] W (RetVO W RS RT 0) := fun W h => by have := hrt W h; rw [e2] at this; unfold RetVO at this ⊢; rw [← e1]; exact this
                          have HRT := Lib.hid hrt2
                          clear hrt hrt2 e1 e2 hz1
                          go_wp2_with (go_at_call 38; refine (HRT.out _ (F15.out.lw 3 rfl)).mono ?_; rintro e wz ⟨a15, c15, b15, d15, rfl, hf⟩; have FZ := Lib.hid (F15.out.join hf); simp only [List.cons_append, List.nil_append] at FZ; clear hf F15 d0_0 d0_1 d0_2 d0_3 d0_4 d0_5 d0_6 d0_7 d0_8 d0_9 d0_10; have z5_0 := FZ.out.c 5 0 rfl rfl; have z5_1 := FZ.out.c 5 1 rfl rfl; have z5_2 := FZ.out.c 5 2 rfl rfl; have zf5_0 := FZ.out.f 5 0 rfl rfl; have zf5_1 := FZ.out.f 5 1 rfl rfl; have zf5_2 := FZ.out.f 5 2 rfl rfl)
                          go_meet
                          exact ⟨by rw [HZ1.out], a15, c15, b15, d15, Lib.hid (by have := FZ.out.set 5 rfl (by simp) [.slice a15 RS.length c15, .slice b15 RT.length d15, .int .i64 0] rfl; simpa only [setL, Nat.reduceAdd, List.set_cons_zero, List.set_cons_succ, List.cons_append, List.nil_append] using this)⟩
                      case rest =>
                        obtain ⟨rfl, a15, c15, b15, d15, F16⟩ := hcut
                        clear F15
                        go_wp2
                        go_meet
                        exact ⟨rfl, rfl, a14, c14, b14, d14, a15, c15, b15, d15, F16⟩
                · skip
                  obtain rfl : CZ = 1 := by rw [← ECZ.out, ← EBZ.out]; revert hb2; cases vb <;> cases gb <;> simp
                  have hvg : (viewB sh st off 65536 && goodB ss) = false := by rw [HVB.out, HGB.out]; revert hb2; cases vb <;> cases gb <;> simp
                  have hz1 : WZ = 1 := by rw [← EWZ.out]; unfold wdZ; rw [hvg]; rfl
                  have hz2 : RZ = 1 := by rw [← ERZ.out]; unfold rsZ; rw [hvg]; rfl
                  have HZ1 := Lib.hid hz1
                  have HZ2 := Lib.hid hz2
                  clear hz1 hz2 hvg hb2
                  go_wp2
                  go_meet
                  have n1 := HNW.out (by rw [HZ1.out]; decide)
                  have n2 := HNR.out (by rw [HZ2.out]; decide)
                  exact ⟨by rw [HZ1.out], by rw [HZ2.out], none, 0, none, 0, none, 0, none, 0, Lib.hid (by rw [n1.1, n1.2.1, n1.2.2, n2.1, n2.2.1]; have h9 := (((F11.out.addNil 3).addNil 3).addNil 3).addNil 3; simpa only [List.append_assoc, List.cons_append, List.nil_append, List.map_nil, List.length_nil] using h9)⟩
              case rest =>
                obtain ⟨rfl, rfl, a14, c14, b14, d14, a15, c15, b15, d15, F12⟩ := hcut
                clear F11
                obtain ⟨w20, rfl⟩ : ∃ x : World, x = wc := ⟨_, rfl⟩
                have d0_0 := F12.out.c 0 0 rfl rfl
                have d0_1 := F12.out.c 0 1 rfl rfl
                have d0_2 := F12.out.c 0 2 rfl rfl
                have d0_3 := F12.out.c 0 3 rfl rfl
                have d0_4 := F12.out.c 0 4 rfl rfl
                have d0_5 := F12.out.c 0 5 rfl rfl
                have d0_6 := F12.out.c 0 6 rfl rfl
                have d0_7 := F12.out.c 0 7 rfl rfl
                have d0_8 := F12.out.c 0 8 rfl rfl
                have d0_9 := F12.out.c 0 9 rfl rfl
                have d0_10 := F12.out.c 0 10 rfl rfl
                have d1_0 := F12.out.c 1 0 rfl rfl
                have d1_1 := F12.out.c 1 1 rfl rfl
                have d1_2 := F12.out.c 1 2 rfl rfl
                go_upto_region 37 with (go_at_call 25; refine (HVT.out a5 b5 c5 d5 _ (F12.out.li 0 (k := .i64) (xs := sh) rfl HSW.out) (F12.out.li 1 (k := .i64) (xs := st) rfl HTW.out) (F12.out.lw 2 rfl)).mono ?_; rintro e wa0 ⟨xa, xc, ya, yd, rfl, hf⟩; have Fa0 := Lib.hid (F12.out.join hf); simp only [List.cons_append, List.nil_append] at Fa0; clear hf F12 d0_0 d0_1 d0_2 d0_3 d0_4 d0_5 d0_6 d0_7 d0_8 d0_9 d0_10 d1_0 d1_1 d1_2)
                obtain ⟨X17, hX17⟩ : ∃ x, wa0.heap.size = x := ⟨_, rfl⟩
                rw [hX17]
                have Fb0 := Lib.hid (Fa0.out.box1 (b := X17) hX17 [.slice xa TS.length xc, .slice ya TT.length yd, .int .i64 TO] 25)
                simp only [List.nil_append, List.cons_append] at Fb0
                obtain ⟨Wb0, hWb0⟩ : ∃ x, (wa0.alloc (.cells #[.slice xa TS.length xc, .slice ya TT.length yd, .int .i64 TO] 25)) = x := ⟨_, rfl⟩
                rw [hWb0] at Fb0 ⊢
                clear hWb0 hX17 Fa0
                have HIS := Lib.hid (is7_any xa ya a12 b12 xc yd c12 d12 wo.heap.size TS TT TS TT TO TO TZ TZ Wb0 (Fb0.out.r 12 rfl) (Fb0.out.r 13 rfl) (frNe Fb0.out 12 13 (by decide) rfl rfl) HLTS.out HLTT.out Fb0.out.hlo HWTS.out HWTT.out (Fb0.out.li 2 (k := .i64) (xs := TS) rfl HWTS.out) (Fb0.out.li 3 (k := .i64) (xs := TT) rfl HWTT.out) rfl (fun _ => ⟨rfl, rfl, rfl⟩) HNT.out)
                have d7_0 := Fb0.out.c 7 0 rfl rfl
                have d7_1 := Fb0.out.c 7 1 rfl rfl
                have d7_2 := Fb0.out.c 7 2 rfl rfl
                have d2_0 := Fb0.out.c 2 0 rfl rfl
                have d2_1 := Fb0.out.c 2 1 rfl rfl
                have d2_2 := Fb0.out.c 2 2 rfl rfl
                go_upto_region 39 with (go_at_call 42; refine (HIS.out).mono ?_; rintro e wc0 ⟨rfl, U1, U2, hb1, hg2, hg3⟩; have Fd0 := Lib.hid (((Fb0.out.next hb1).spoil 12 rfl hg2).spoil 12 rfl hg3); simp only [List.eraseIdx_cons_succ, List.eraseIdx_cons_zero, List.eraseIdx_zero, List.tail_cons] at Fd0; clear hb1 hg2 hg3 HIS Fb0 d7_0 d7_1 d7_2 d2_0 d2_1 d2_2)
                have d0_0 := Fd0.out.c 0 0 rfl rfl
                have d0_1 := Fd0.out.c 0 1 rfl rfl
                have d0_2 := Fd0.out.c 0 2 rfl rfl
                have d0_3 := Fd0.out.c 0 3 rfl rfl
                have d0_4 := Fd0.out.c 0 4 rfl rfl
                have d0_5 := Fd0.out.c 0 5 rfl rfl
                have d0_6 := Fd0.out.c 0 6 rfl rfl
                have d0_7 := Fd0.out.c 0 7 rfl rfl
                have d0_8 := Fd0.out.c 0 8 rfl rfl
                have d0_9 := Fd0.out.c 0 9 rfl rfl
                have d0_10 := Fd0.out.c 0 10 rfl rfl
                have d1_0 := Fd0.out.c 1 0 rfl rfl
                have d1_1 := Fd0.out.c 1 1 rfl rfl
                have d1_2 := Fd0.out.c 1 2 rfl rfl
                have d7_0 := Fd0.out.c 7 0 rfl rfl
                have d7_1 := Fd0.out.c 7 1 rfl rfl
                have d7_2 := Fd0.out.c 7 2 rfl rfl
                have df7_0 := Fd0.out.f 7 0 rfl rfl
                have df7_1 := Fd0.out.f 7 1 rfl rfl
                have df7_2 := Fd0.out.f 7 2 rfl rfl
                go_upto_region 40 with (go_at_call 29; refine (HVS.out a5 b5 c5 d5 _ (Fd0.out.li 0 (k := .i64) (xs := sh) rfl HSW.out) (Fd0.out.li 1 (k := .i64) (xs := st) rfl HTW.out)).mono ?_; rintro e wa1 ⟨xa, xc, ya, yd, rfl, hf⟩; have Fa1 := Lib.hid (Fd0.out.join hf); simp only [List.cons_append, List.nil_append] at Fa1; clear hf Fd0 d0_0 d0_1 d0_2 d0_3 d0_4 d0_5 d0_6 d0_7 d0_8 d0_9 d0_10 d1_0 d1_1 d1_2 d7_0 d7_1 d7_2 df7_0 df7_1 df7_2; have e7_0 := Fa1.out.c 7 0 rfl rfl; have e7_1 := Fa1.out.c 7 1 rfl rfl; have e7_2 := Fa1.out.c 7 2 rfl rfl; have ef7_0 := Fa1.out.f 7 0 rfl rfl; have ef7_1 := Fa1.out.f 7 1 rfl rfl; have ef7_2 := Fa1.out.f 7 2 rfl rfl)
                have Fb1 := Lib.hid (Fa1.out.set 7 rfl (by simp) [.slice xa SS.length xc, .slice ya ST.length yd, .int .i64 SO] rfl)
                simp only [List.set_cons_zero, List.set_cons_succ] at Fb1
                obtain ⟨Wb1, hWb⟩ : ∃ x, setL wa1 X17 0 [.slice xa SS.length xc, .slice ya ST.length yd, .int .i64 SO] = x := ⟨_, rfl⟩
                rw [hWb] at Fb1
                simp only [setL, Nat.reduceAdd] at hWb
                rw [hWb]
                clear hWb Fa1 e7_0 e7_1 e7_2 ef7_0 ef7_1 ef7_2
                have HIS := Lib.hid (is7_any xa ya a13 b13 xc yd c13 d13 wo.heap.size SS ST SS ST SO SO SZ SZ Wb1 (Fb1.out.r 12 rfl) (Fb1.out.r 13 rfl) (frNe Fb1.out 12 13 (by decide) rfl rfl) HLSS.out HLST.out Fb1.out.hlo HWSS.out HWST.out (Fb1.out.li 4 (k := .i64) (xs := SS) rfl HWSS.out) (Fb1.out.li 5 (k := .i64) (xs := ST) rfl HWST.out) rfl (fun _ => ⟨rfl, rfl, rfl⟩) HNS.out)
                have d7_0 := Fb1.out.c 7 0 rfl rfl
                have d7_1 := Fb1.out.c 7 1 rfl rfl
                have d7_2 := Fb1.out.c 7 2 rfl rfl
                have d3_0 := Fb1.out.c 3 0 rfl rfl
                have d3_1 := Fb1.out.c 3 1 rfl rfl
                have d3_2 := Fb1.out.c 3 2 rfl rfl
                go_upto_region 42 with (go_at_call 42; refine (HIS.out).mono ?_; rintro e wc1 ⟨rfl, U1, U2, hb1, hg2, hg3⟩; have Fd1 := Lib.hid (((Fb1.out.next hb1).spoil 12 rfl hg2).spoil 12 rfl hg3); simp only [List.eraseIdx_cons_succ, List.eraseIdx_cons_zero, List.eraseIdx_zero, List.tail_cons] at Fd1; clear hb1 hg2 hg3 HIS Fb1 d7_0 d7_1 d7_2 d3_0 d3_1 d3_2)
                have d0_0 := Fd1.out.c 0 0 rfl rfl
                have d0_1 := Fd1.out.c 0 1 rfl rfl
                have d0_2 := Fd1.out.c 0 2 rfl rfl
                have d0_3 := Fd1.out.c 0 3 rfl rfl
                have d0_4 := Fd1.out.c 0 4 rfl rfl
                have d0_5 := Fd1.out.c 0 5 rfl rfl
                have d0_6 := Fd1.out.c 0 6 rfl rfl
                have d0_7 := Fd1.out.c 0 7 rfl rfl
                have d0_8 := Fd1.out.c 0 8 rfl rfl
                have d0_9 := Fd1.out.c 0 9 rfl rfl
                have d0_10 := Fd1.out.c 0 10 rfl rfl
                have d1_0 := Fd1.out.c 1 0 rfl rfl
                have d1_1 := Fd1.out.c 1 1 rfl rfl
                have d1_2 := Fd1.out.c 1 2 rfl rfl
                have d7_0 := Fd1.out.c 7 0 rfl rfl
                have d7_1 := Fd1.out.c 7 1 rfl rfl
                have d7_2 := Fd1.out.c 7 2 rfl rfl
                have df7_0 := Fd1.out.f 7 0 rfl rfl
                have df7_1 := Fd1.out.f 7 1 rfl rfl
                have df7_2 := Fd1.out.f 7 2 rfl rfl
                go_upto_region 43 with (go_at_call 32; refine (HVW.out a5 b5 c5 d5 _ (Fd1.out.li 0 (k := .i64) (xs := sh) rfl HSW.out) (Fd1.out.li 1 (k := .i64) (xs := st) rfl HTW.out) (Fd1.out.lw 3 rfl)).mono ?_; rintro e wa2 ⟨xa, xc, ya, yd, rfl, hf⟩; have Fa2 := Lib.hid (Fd1.out.join hf); simp only [List.cons_append, List.nil_append] at Fa2; clear hf Fd1 d0_0 d0_1 d0_2 d0_3 d0_4 d0_5 d0_6 d0_7 d0_8 d0_9 d0_10 d1_0 d1_1 d1_2 d7_0 d7_1 d7_2 df7_0 df7_1 df7_2; have e7_0 := Fa2.out.c 7 0 rfl rfl; have e7_1 := Fa2.out.c 7 1 rfl rfl; have e7_2 := Fa2.out.c 7 2 rfl rfl; have ef7_0 := Fa2.out.f 7 0 rfl rfl; have ef7_1 := Fa2.out.f 7 1 rfl rfl; have ef7_2 := Fa2.out.f 7 2 rfl rfl)
                have Fb2 := Lib.hid (Fa2.out.set 7 rfl (by simp) [.slice xa WS.length xc, .slice ya WT.length yd, .int .i64 WO] rfl)
                simp only [List.set_cons_zero, List.set_cons_succ] at Fb2
                obtain ⟨Wb2, hWb⟩ : ∃ x, setL wa2 X17 0 [.slice xa WS.length xc, .slice ya WT.length yd, .int .i64 WO] = x := ⟨_, rfl⟩
                rw [hWb] at Fb2
                simp only [setL, Nat.reduceAdd] at hWb
                rw [hWb]
                clear hWb Fa2 e7_0 e7_1 e7_2 ef7_0 ef7_1 ef7_2
                have HIS := Lib.hid (is7_any xa ya a14 b14 xc yd c14 d14 wo.heap.size WS WT WS WT WO WO WZ WZ Wb2 (Fb2.out.r 12 rfl) (Fb2.out.r 13 rfl) (frNe Fb2.out 12 13 (by decide) rfl rfl) HLWS.out HLWT.out Fb2.out.hlo HWWS.out HWWT.out (Fb2.out.li 8 (k := .i64) (xs := WS) rfl HWWS.out) (Fb2.out.li 9 (k := .i64) (xs := WT) rfl HWWT.out) rfl (fun _ => ⟨rfl, rfl, rfl⟩) HNW.out)
                have d7_0 := Fb2.out.c 7 0 rfl rfl
                have d7_1 := Fb2.out.c 7 1 rfl rfl
                have d7_2 := Fb2.out.c 7 2 rfl rfl
                have d4_0 := Fb2.out.c 4 0 rfl rfl
                have d4_1 := Fb2.out.c 4 1 rfl rfl
                have d4_2 := Fb2.out.c 4 2 rfl rfl
                go_upto_region 45 with (go_at_call 42; refine (HIS.out).mono ?_; rintro e wc2 ⟨rfl, U1, U2, hb1, hg2, hg3⟩; have Fd2 := Lib.hid (((Fb2.out.next hb1).spoil 12 rfl hg2).spoil 12 rfl hg3); simp only [List.eraseIdx_cons_succ, List.eraseIdx_cons_zero, List.eraseIdx_zero, List.tail_cons] at Fd2; clear hb1 hg2 hg3 HIS Fb2 d7_0 d7_1 d7_2 d4_0 d4_1 d4_2)
                have d0_0 := Fd2.out.c 0 0 rfl rfl
                have d0_1 := Fd2.out.c 0 1 rfl rfl
                have d0_2 := Fd2.out.c 0 2 rfl rfl
                have d0_3 := Fd2.out.c 0 3 rfl rfl
                have d0_4 := Fd2.out.c 0 4 rfl rfl
                have d0_5 := Fd2.out.c 0 5 rfl rfl
                have d0_6 := Fd2.out.c 0 6 rfl rfl
                have d0_7 := Fd2.out.c 0 7 rfl rfl
                have d0_8 := Fd2.out.c 0 8 rfl rfl
                have d0_9 := Fd2.out.c 0 9 rfl rfl
                have d0_10 := Fd2.out.c 0 10 rfl rfl
                have d1_0 := Fd2.out.c 1 0 rfl rfl
                have d1_1 := Fd2.out.c 1 1 rfl rfl
                have d1_2 := Fd2.out.c 1 2 rfl rfl
                have d7_0 := Fd2.out.c 7 0 rfl rfl
                have d7_1 := Fd2.out.c 7 1 rfl rfl
                have d7_2 := Fd2.out.c 7 2 rfl rfl
                have df7_0 := Fd2.out.f 7 0 rfl rfl
                have df7_1 := Fd2.out.f 7 1 rfl rfl
                have df7_2 := Fd2.out.f 7 2 rfl rfl
                go_upto_region 46 with (go_at_call 34; refine (HVR.out a5 b5 c5 d5 _ (Fd2.out.li 0 (k := .i64) (xs := sh) rfl HSW.out) (Fd2.out.li 1 (k := .i64) (xs := st) rfl HTW.out) (Fd2.out.lw 3 rfl)).mono ?_; rintro e wa3 ⟨xa, xc, ya, yd, rfl, hf⟩; have Fa3 := Lib.hid (Fd2.out.join hf); simp only [List.cons_append, List.nil_append] at Fa3; clear hf Fd2 d0_0 d0_1 d0_2 d0_3 d0_4 d0_5 d0_6 d0_7 d0_8 d0_9 d0_10 d1_0 d1_1 d1_2 d7_0 d7_1 d7_2 df7_0 df7_1 df7_2; have e7_0 := Fa3.out.c 7 0 rfl rfl; have e7_1 := Fa3.out.c 7 1 rfl rfl; have e7_2 := Fa3.out.c 7 2 rfl rfl; have ef7_0 := Fa3.out.f 7 0 rfl rfl; have ef7_1 := Fa3.out.f 7 1 rfl rfl; have ef7_2 := Fa3.out.f 7 2 rfl rfl)
                have Fb3 := Lib.hid (Fa3.out.set 7 rfl (by simp) [.slice xa RS.length xc, .slice ya RT.length yd, .int .i64 0] rfl)
                simp only [List.set_cons_zero, List.set_cons_succ] at Fb3
                obtain ⟨Wb3, hWb⟩ : ∃ x, setL wa3 X17 0 [.slice xa RS.length xc, .slice ya RT.length yd, .int .i64 0] = x := ⟨_, rfl⟩
                rw [hWb] at Fb3
                simp only [setL, Nat.reduceAdd] at hWb
                rw [hWb]
                clear hWb Fa3 e7_0 e7_1 e7_2 ef7_0 ef7_1 ef7_2
                have HIS := Lib.hid (is7_any xa ya a15 b15 xc yd c15 d15 wo.heap.size RS RT RS RT 0 0 RZ RZ Wb3 (Fb3.out.r 12 rfl) (Fb3.out.r 13 rfl) (frNe Fb3.out 12 13 (by decide) rfl rfl) HLRS.out HLRT.out Fb3.out.hlo HWRS.out HWRT.out (Fb3.out.li 10 (k := .i64) (xs := RS) rfl HWRS.out) (Fb3.out.li 11 (k := .i64) (xs := RT) rfl HWRT.out) rfl (fun _ => ⟨rfl, rfl, rfl⟩) (fun h9 => ⟨(HNR.out h9).1, (HNR.out h9).2.1, rfl⟩))
                have d7_0 := Fb3.out.c 7 0 rfl rfl
                have d7_1 := Fb3.out.c 7 1 rfl rfl
                have d7_2 := Fb3.out.c 7 2 rfl rfl
                have d5_0 := Fb3.out.c 5 0 rfl rfl
                have d5_1 := Fb3.out.c 5 1 rfl rfl
                have d5_2 := Fb3.out.c 5 2 rfl rfl
                go_upto_region 48 with (go_at_call 42; refine (HIS.out).mono ?_; rintro e wc3 ⟨rfl, U1, U2, hb1, hg2, hg3⟩; have Fd3 := Lib.hid (((Fb3.out.next hb1).spoil 12 rfl hg2).spoil 12 rfl hg3); simp only [List.eraseIdx_cons_succ, List.eraseIdx_cons_zero, List.eraseIdx_zero, List.tail_cons] at Fd3; clear hb1 hg2 hg3 HIS Fb3 d7_0 d7_1 d7_2 d5_0 d5_1 d5_2)
                have d0_0 := Fd3.out.c 0 0 rfl rfl
                have d0_1 := Fd3.out.c 0 1 rfl rfl
                have d0_2 := Fd3.out.c 0 2 rfl rfl
                have d0_3 := Fd3.out.c 0 3 rfl rfl
                have d0_4 := Fd3.out.c 0 4 rfl rfl
                have d0_5 := Fd3.out.c 0 5 rfl rfl
                have d0_6 := Fd3.out.c 0 6 rfl rfl
                have d0_7 := Fd3.out.c 0 7 rfl rfl
                have d0_8 := Fd3.out.c 0 8 rfl rfl
                have d0_9 := Fd3.out.c 0 9 rfl rfl
                have d0_10 := Fd3.out.c 0 10 rfl rfl
                have d1_0 := Fd3.out.c 1 0 rfl rfl
                have d1_1 := Fd3.out.c 1 1 rfl rfl
                have d1_2 := Fd3.out.c 1 2 rfl rfl
                have d7_0 := Fd3.out.c 7 0 rfl rfl
                have d7_1 := Fd3.out.c 7 1 rfl rfl
                have d7_2 := Fd3.out.c 7 2 rfl rfl
                have df7_0 := Fd3.out.f 7 0 rfl rfl
                have df7_1 := Fd3.out.f 7 1 rfl rfl
                have df7_2 := Fd3.out.f 7 2 rfl rfl
                go_upto_region 49 with (go_at_call 33; refine (HVO.out _ (Fd3.out.lw 3 rfl)).mono ?_; rintro e wa4 ⟨xa, xc, ya, yd, rfl, hf⟩; have Fa4 := Lib.hid (Fd3.out.join hf); simp only [List.cons_append, List.nil_append] at Fa4; clear hf Fd3 d0_0 d0_1 d0_2 d0_3 d0_4 d0_5 d0_6 d0_7 d0_8 d0_9 d0_10 d1_0 d1_1 d1_2 d7_0 d7_1 d7_2 df7_0 df7_1 df7_2; have e7_0 := Fa4.out.c 7 0 rfl rfl; have e7_1 := Fa4.out.c 7 1 rfl rfl; have e7_2 := Fa4.out.c 7 2 rfl rfl; have ef7_0 := Fa4.out.f 7 0 rfl rfl; have ef7_1 := Fa4.out.f 7 1 rfl rfl; have ef7_2 := Fa4.out.f 7 2 rfl rfl)
                have Fb4 := Lib.hid (Fa4.out.set 7 rfl (by simp) [.slice xa OS.length xc, .slice ya OT.length yd, .int .i64 0] rfl)
                simp only [List.set_cons_zero, List.set_cons_succ] at Fb4
                obtain ⟨Wb4, hWb⟩ : ∃ x, setL wa4 X17 0 [.slice xa OS.length xc, .slice ya OT.length yd, .int .i64 0] = x := ⟨_, rfl⟩
                rw [hWb] at Fb4
                simp only [setL, Nat.reduceAdd] at hWb
                rw [hWb]
                clear hWb Fa4 e7_0 e7_1 e7_2 ef7_0 ef7_1 ef7_2
                have HIS := Lib.hid (is7_any xa ya a16 b16 xc yd c16 d16 wo.heap.size OS OT OS OT 0 0 OZ OZ Wb4 (Fb4.out.r 12 rfl) (Fb4.out.r 13 rfl) (frNe Fb4.out 12 13 (by decide) rfl rfl) HLOS.out HLOT.out Fb4.out.hlo HWOS.out HWOT.out (Fb4.out.li 6 (k := .i64) (xs := OS) rfl HWOS.out) (Fb4.out.li 7 (k := .i64) (xs := OT) rfl HWOT.out) rfl (fun _ => ⟨rfl, rfl, rfl⟩) (fun h9 => ⟨(HNO.out h9).1, (HNO.out h9).2.1, rfl⟩))
                have d7_0 := Fb4.out.c 7 0 rfl rfl
                have d7_1 := Fb4.out.c 7 1 rfl rfl
                have d7_2 := Fb4.out.c 7 2 rfl rfl
                have d6_0 := Fb4.out.c 6 0 rfl rfl
                have d6_1 := Fb4.out.c 6 1 rfl rfl
                have d6_2 := Fb4.out.c 6 2 rfl rfl
                have hev := fun W (h1 : Ints .i64 W W.heap.size a5 sh) (h2 : Ints .i64 W W.heap.size b5 st) (h3 : Ints .i64 W W.heap.size a sh) (h4 : Ints .i64 W W.heap.size b st) => eqView_any a5 b5 a b c5 d5 c d sh st sh st off off W h1 h2 h3 h4
                simp only [decide_true, Bool.and_true] at hev
                have HEV := Lib.hid hev
                clear hev
                go_upto_region 51 with (first | (go_at_call 42; refine (HIS.out).mono ?_; rintro e wc4 ⟨rfl, U1, U2, hb1, hg2, hg3⟩; have Fd4 := Lib.hid (((Fb4.out.next hb1).spoil 12 rfl hg2).spoil 12 rfl hg3); simp only [List.eraseIdx_cons_succ, List.eraseIdx_cons_zero, List.eraseIdx_zero, List.tail_cons] at Fd4; clear hb1 hg2 hg3 HIS Fb4 d7_0 d7_1 d7_2 d6_0 d6_1 d6_2; have f0_0 := Fd4.out.c 0 0 rfl rfl; have f0_1 := Fd4.out.c 0 1 rfl rfl; have f0_2 := Fd4.out.c 0 2 rfl rfl; have f0_3 := Fd4.out.c 0 3 rfl rfl; have f0_4 := Fd4.out.c 0 4 rfl rfl; have f0_5 := Fd4.out.c 0 5 rfl rfl; have f0_6 := Fd4.out.c 0 6 rfl rfl; have f0_7 := Fd4.out.c 0 7 rfl rfl; have f0_8 := Fd4.out.c 0 8 rfl rfl; have f0_9 := Fd4.out.c 0 9 rfl rfl; have f0_10 := Fd4.out.c 0 10 rfl rfl; have f1_0 := Fd4.out.c 1 0 rfl rfl; have f1_1 := Fd4.out.c 1 1 rfl rfl; have f1_2 := Fd4.out.c 1 2 rfl rfl) | (go_at_call 26; refine (HEV.out _ (Fd4.out.li 0 (k := .i64) (xs := sh) rfl HSW.out) (Fd4.out.li 1 (k := .i64) (xs := st) rfl HTW.out) (Fd4.out.lw 0 rfl) (Fd4.out.lw 1 rfl)).mono ?_; rintro e w30 ⟨rfl, hb⟩; have F30 := Lib.hid (Fd4.out.next hb); clear hb Fd4 f0_0 f0_1 f0_2 f0_3 f0_4 f0_5 f0_6 f0_7 f0_8 f0_9 f0_10 f1_0 f1_1 f1_2) | fail)
                have d0_0 := F30.out.c 0 0 rfl rfl
                have d0_1 := F30.out.c 0 1 rfl rfl
                have d0_2 := F30.out.c 0 2 rfl rfl
                have d0_3 := F30.out.c 0 3 rfl rfl
                have d0_4 := F30.out.c 0 4 rfl rfl
                have d0_5 := F30.out.c 0 5 rfl rfl
                have d0_6 := F30.out.c 0 6 rfl rfl
                have d0_7 := F30.out.c 0 7 rfl rfl
                have d0_8 := F30.out.c 0 8 rfl rfl
                have d0_9 := F30.out.c 0 9 rfl rfl
                have d0_10 := F30.out.c 0 10 rfl rfl
                obtain ⟨nn, hn1, hn2⟩ : ∃ nn : Int, withinN p1 200 = nn ∧ (0 ≤ nn ∧ nn < 200) := ⟨_, rfl, withinN_bound p1 200 (by omega)⟩
                have hWI := fun W => Lib.hid (within0_any p1 200 W HP1.out (by omega) (by omega))
                rw [hn1] at hWI
                clear hn1
                have HM2 := Lib.hid (HMV.out nn)
                have HCK := Lib.hid (fun (p q : Option Addr) (cp cq : Nat) W (h : Ints .i64 W W.heap.size p sh) (h2 : Ints .i64 W W.heap.size q st) => check7_any p q cp cq sh st off nn W h h2)
                obtain ⟨v2, hv2⟩ : ∃ x, viewB sh st off nn = x := ⟨_, rfl⟩
                rw [hv2] at HM2 HCK
                obtain ⟨IZ, hIZ⟩ : ∃ x : Int, (if v2 = true then 0 else 1) = x := ⟨_, rfl⟩
                rw [hIZ] at HCK
                have EIZ := Lib.hid hIZ
                clear hv2 hIZ
                go_upto_if 225 with (first | (go_at_call 28; refine (hWI _).out.mono ?_; rintro e w' ⟨rfl, rfl⟩) | (go_at_call 8; refine (HM2.out _ (F30.out.lw 0 rfl) (F30.out.lw 1 rfl)).mono ?_; rintro e w31 ⟨rfl, hb⟩; have F31 := Lib.hid (F30.out.next hb); clear hb F30 d0_0 d0_1 d0_2 d0_3 d0_4 d0_5 d0_6 d0_7 d0_8 d0_9 d0_10) | fail)
                go_cut [20] from 225 to 225 (fun s20 wx => s20 = .int .i64 IZ ∧ wx = w31)
                case first =>
                  cases v2 with
                  | true =>
                    have hz : IZ = 0 := by rw [← EIZ.out]; rfl
                    go_wp2
                    go_meet
                    exact ⟨by rw [hz], rfl⟩
                  | false =>
                    have hz : IZ = 1 := by rw [← EIZ.out]; rfl
                    go_wp2
                    go_meet
                    exact ⟨by rw [hz], rfl⟩
                case rest =>
                  obtain ⟨rfl, rfl⟩ := hcut
                  clear hWI HM2
                  have d1_0 := F31.out.c 1 0 rfl rfl
                  have d1_1 := F31.out.c 1 1 rfl rfl
                  have d1_2 := F31.out.c 1 2 rfl rfl
                  go_wp2_with (first | (go_at_call 43; refine (HCK.out a5 b5 c5 d5 _ (F31.out.li 0 (k := .i64) (xs := sh) rfl HSW.out) (F31.out.li 1 (k := .i64) (xs := st) rfl HTW.out)).mono ?_; rintro e w32 ⟨rfl, hb⟩; have F32 := Lib.hid (F31.out.next hb); clear hb F31 d1_0 d1_1 d1_2) | (go_at_call 18; refine (num7_any _ _).mono ?_; rintro e w' ⟨rfl, rfl⟩) | fail)
                  go_roundw
                  case rel => exact ⟨k + 1, by omega, by go_num, HB.out.trans (F32.out.bel.mono HB.out.size)⟩
                  case measure => simp [intOf]; omega
    · have HB := Lib.hid hbel
      clear hbel h
      have WK := fun W => Lib.hid (wakes7_any W)
      by_cases hlt : k < n
      · have hk15 : ¬ (k : Int) < 15 := by omega
        have hkn : (k : Int) < n := by omega
        go_wp2_with (go_at_call 23; refine ((WK _).out).mono ?_; rintro e w1 ⟨rfl, hb⟩; have HW1 := Lib.hid hb; clear hb)
        go_ret
        exact ⟨rfl, HB.out.trans (HW1.out.mono HB.out.size)⟩
      · obtain rfl : k = n := by omega
        go_wp2_with (go_at_call 23; refine ((WK _).out).mono ?_; rintro e w1 ⟨rfl, hb⟩; have HW1 := Lib.hid hb; clear hb)
        go_ret
        exact ⟨rfl, HB.out.trans (HW1.out.mono HB.out.size)⟩
end Go.Proofs.Ytnafbgkfhojamaa
