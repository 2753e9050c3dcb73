/- Walks: reduce.Sum, reduce.Mean in all cases. -/
import Derived.Test.YtmjcpgfekpedkaaRdL
set_option linter.unusedVariables false
set_option linter.unusedSimpArgs false
namespace Go.Proofs.Ytmjcpgfekpedkaa
open Go.RowKit Go.Rt
def smN (xs axes : List Int) : Nat := (prodI (restL xs axes)).toNat
def smS (xs ys axes : List Int) : Nat → Int := fun k => sumK (fun n => (intoI xs axes n).toNat) ys k ys.length
def smC (mean : Bool) (xs ys axes : List Int) : Nat := if mean = true then ys.length / smN xs axes else 1
def smR (mean : Bool) (xs ys axes : List Int) : Nat → Int := fun k => roundI (smS xs ys axes k) (smC mean xs ys axes)
def smZ (mean : Bool) (xs ys axes : List Int) : Int := if ckZ xs ys axes = 0 then rdZ (smR mean xs ys axes) (smN xs axes) else ckZ xs ys axes
def smX (mean : Bool) (xs ys axes : List Int) : List Int := zL (smZ mean xs ys axes) (restL xs axes)
def smY (mean : Bool) (xs ys axes : List Int) : List Int := zL (smZ mean xs ys axes) ((List.range (smN xs axes)).map (smR mean xs ys axes))
theorem ckZ_ok {xs ys axes : List Int} (h : ckZ xs ys axes = 0) : tenB xs ys = true ∧ axB (-1) xs.length axes = true := by
  unfold ckZ at h
  split at h
  · split at h
    · exact ⟨by assumption, by assumption⟩
    · exact absurd h (by decide)
  · exact absurd h (by decide)
theorem sm_bounds {xs ys : List Int} (axes : List Int) (ht : tenB xs ys = true) : prodI (restL xs axes) = (smN xs axes : Int) ∧ 1 ≤ smN xs axes ∧ smN xs axes ≤ ys.length ∧ ys.length ≤ 65536 ∧ (∀ k, (smS xs ys axes k).natAbs ≤ 65536 * 140737488355328) ∧ ∀ m, 1 ≤ smC m xs ys axes ∧ smC m xs ys axes ≤ 65536 := by
  have lT := tenB_iff.1 ht
  have hP := goodB_prod lT.1
  have hPS := goodB_prod (restL_good (axes := axes) lT.1)
  have hle := prodI_sub (restL_sub xs axes) (fun d hd => (goodB_dims lT.1 d hd).1)
  have hlen := lT.2.1
  have hN : prodI (restL xs axes) = (smN xs axes : Int) := by unfold smN; omega
  have hl : ys.length ≤ 65536 := by omega
  refine ⟨hN, by omega, by omega, hl, fun k => ?_, fun m => ?_⟩
  · have hwd : ∀ y ∈ ys, y.natAbs ≤ 140737488355328 := fun y hy => by have := isW_iff.1 (lT.2.2 y hy); omega
    have h1 := sumK_bound (fun n => (intoI xs axes n).toNat) hwd k ys.length
    have h2 := Nat.mul_le_mul_right 140737488355328 hl
    exact Nat.le_trans h1 h2
  · unfold smC
    split
    · refine ⟨Nat.div_pos (by omega) (by omega), ?_⟩
      have := Nat.div_le_self ys.length (smN xs axes)
      omega
    · omega

set_option maxRecDepth 100000 in
set_option maxHeartbeats 1000000 in
theorem rmean_all (a b a2 : Option Addr) (c d c2 : Nat) (xs ys axes : List Int) (w : World) (h : Ints .i64 w w.heap.size a xs) (h2 : Ints .i64 w w.heap.size b ys) (h3 : Ints .i64 w w.heap.size a2 axes) :
    Calls Try.prog 19 #[.agg #[.slice a xs.length c, .slice b ys.length d], .slice a2 axes.length c2] w (RetTF w (smX true xs ys axes) (smY true xs ys axes) (smZ true xs ys axes)) := by
  have H0 := Lib.hid h
  have H1 := Lib.hid h2
  have H2 := Lib.hid h3
  have hck := fun W h h2 h3 => check_any a b a2 c d c2 xs ys axes W h h2 h3
  by_cases hz : ckZ xs ys axes = 0
  · have hzz : smZ true xs ys axes = rdZ (smR true xs ys axes) (smN xs axes) := by unfold smZ; rw [if_pos hz]
    unfold smX smY
    rw [hzz]
    obtain ⟨ht, _⟩ := ckZ_ok hz
    rw [hz] at hck
    have HCK := Lib.hid hck
    obtain ⟨b1, b2, b3, b4, b5, b6⟩ := sm_bounds axes ht
    have hgd := restL_good (axes := axes) (tenB_iff.1 ht).1
    have hsm := fun W h h2 h3 => sums_any a b a2 c d c2 xs ys axes W h h2 h3 ht
    have HSM : Hid (∀ W, Ints .i64 W W.heap.size a xs → Ints .i64 W W.heap.size b ys → Ints .i64 W W.heap.size a2 axes → Calls Try.prog 44 #[.agg #[.slice a xs.length c, .slice b ys.length d], .slice a2 axes.length c2] W (RetSums W (restL xs axes) (smN xs axes) (smS xs ys axes) (ys.length / smN xs axes))) := Lib.hid hsm
    have hb6 := b6 true
    have hcl := fun a9 c9 Q W h hQ hQl => closed_any a9 c9 Q (smN xs axes) (smC true xs ys axes) (restL xs axes) (smS xs ys axes) W h hgd b1 hQ hQl b5 hb6.1 hb6.2
    have hcm : smC true xs ys axes = ys.length / smN xs axes := by unfold smC; first | rw [if_pos rfl] | rw [if_neg (by decide)]
    have hwf : ∀ x ∈ restL xs axes, (Lit.int .i64 x).wf = true := wf_dims (fun x hx => by have := goodB_dims hgd x hx; omega)
    have hR : (fun k => roundI (smS xs ys axes k) (smC true xs ys axes)) = smR true xs ys axes := rfl
    rw [hR] at hcl
    rw [hcm] at hcl
    obtain ⟨S, hS⟩ : ∃ x, restL xs axes = x := ⟨_, rfl⟩
    obtain ⟨N, hN⟩ : ∃ x, smN xs axes = x := ⟨_, rfl⟩
    obtain ⟨SM, hSM⟩ : ∃ x, smS xs ys axes = x := ⟨_, rfl⟩
    obtain ⟨R, hRR⟩ : ∃ x, smR true xs ys axes = x := ⟨_, rfl⟩
    rw [hS, hN, hSM] at HSM
    rw [hS, hN, hSM, hRR] at hcl
    rw [hS] at hwf
    rw [hS, hN, hRR]
    obtain ⟨Z, hZ⟩ : ∃ x, rdZ R N = x := ⟨_, rfl⟩
    rw [hZ] at hcl ⊢
    obtain ⟨RL, hRL⟩ : ∃ l, (List.range N).map R = l := ⟨_, rfl⟩
    rw [hRL] at hcl ⊢
    obtain ⟨ZS, hZS⟩ : ∃ l, zL Z S = l := ⟨_, rfl⟩
    obtain ⟨ZR, hZR⟩ : ∃ l, zL Z RL = l := ⟨_, rfl⟩
    rw [hZS, hZR] at hcl ⊢
    obtain ⟨cn, hcn⟩ : ∃ x, ys.length / N = x := ⟨_, rfl⟩
    rw [hcn] at hcl HSM
    clear hcn
    have HCL := Lib.hid hcl
    have HWF := Lib.hid hwf
    clear h h2 h3 hck hz hzz ht b1 b2 b3 b4 b5 b6 hgd hsm hb6 hcl hcm hwf hR hS hN hSM hRR hZ hRL hZS hZR
    go_enter Try.func19, Try.ntmps19
    have F1 := Lib.hid (((Fr.start (w := w) (I := [(.i64, a, xs), (.i64, b, ys), (.i64, a2, axes)]) (by intro z hz; simp at hz; rcases hz with rfl | rfl | rfl; exact H0.out; exact H1.out; exact H2.out)).box1 (b := w.heap.size) (by simp) [.slice a xs.length c, .slice b ys.length d] 26).box1 (b := w.heap.size + 1) (by simp) [.slice none 0 0, .slice none 0 0] 26)
    simp only [List.nil_append, List.cons_append] at F1
    go_upto_region 1 with fail
    obtain ⟨W1, hW1⟩ : ∃ W1, ((w.alloc (.cells #[.slice a xs.length c, .slice b ys.length d] 26)).alloc (.cells #[.slice none 0 0, .slice none 0 0] 26)) = W1 := ⟨_, rfl⟩
    rw [hW1] at F1 ⊢
    clear hW1
    have c0_0 := F1.out.c 0 0 rfl rfl
    have c0_1 := F1.out.c 0 1 rfl rfl
    go_upto_region 4 with (go_at_call 39; refine (HCK.out _ (F1.out.lw 0 rfl) (F1.out.lw 1 rfl) (F1.out.lw 2 rfl)).mono ?_; rintro e w2 ⟨rfl, hb⟩; have F2 := Lib.hid (F1.out.next hb); clear hb F1 c0_0 c0_1; have d0_0 := F2.out.c 0 0 rfl rfl; have d0_1 := F2.out.c 0 1 rfl rfl)
    go_wp2_with (first | (go_at_call 44; refine (HSM.out _ (F2.out.lw 0 rfl) (F2.out.lw 1 rfl) (F2.out.lw 2 rfl)).mono ?_; rintro e w3 ⟨as_, cs_, Q, rfl, hf⟩; have F3 := Lib.hid (F2.out.join2 hf); simp only [List.cons_append, List.nil_append, List.append_nil] at F3; clear hf F2 d0_0 d0_1) | (go_at_call 43; refine (HCL.out as_ cs_ Q w3 (F3.out.li 0 (k := .i64) (xs := S) rfl HWF.out) (F3.out.box _ (List.mem_of_getElem? (i := 2) rfl)).1 (F3.out.bl 2 rfl).2).mono ?_; rintro e w4 ⟨ax, cx, ay, cy, rfl, hf⟩; have F4 := Lib.hid (F3.out.join hf); simp only [List.cons_append, List.nil_append] at F4; clear hf F3; have e1_0 := F4.out.c 1 0 rfl rfl; have e1_1 := F4.out.c 1 1 rfl rfl; have ef1_0 := F4.out.f 1 0 rfl rfl; have ef1_1 := F4.out.f 1 1 rfl rfl) | fail)
    have FZ := F4.out.set 1 rfl (by simp) [.slice ax ZS.length cx, .slice ay ZR.length cy] rfl
    simp only [setL, Nat.reduceAdd, List.set_cons_zero, List.set_cons_succ] at FZ
    have y0 := FZ.c 1 0 rfl rfl
    have y1 := FZ.c 1 1 rfl rfl
    refine bodyPost_ret (v := .tuple #[.agg #[.slice ax ZS.length cx, .slice ay ZR.length cy], .int .i64 Z]) ?_ rfl ⟨ax, cx, ay, cy, rfl, FZ.less (List.nil_sublist _) (List.nil_sublist _) (.cons _ (.refl _)) (List.nil_sublist _)⟩
    rw [results_ctZ rfl]
    go_simp
  · skip
    have hzz : smZ true xs ys axes = ckZ xs ys axes := by unfold smZ; rw [if_neg hz]
    unfold smX smY
    rw [hzz, zL_ne _ hz, zL_ne _ hz]
    obtain ⟨Z, hZ⟩ : ∃ z, ckZ xs ys axes = z := ⟨_, rfl⟩
    rw [hZ] at hck hz ⊢
    have hzb : (Z != 0) = true := by simpa using hz
    have HCK := Lib.hid hck
    clear h h2 h3 hck hz hzz hZ
    go_enter Try.func19, Try.ntmps19
    have F1 := Lib.hid (((Fr.start (w := w) (I := [(.i64, a, xs), (.i64, b, ys), (.i64, a2, axes)]) (by intro z hz; simp at hz; rcases hz with rfl | rfl | rfl; exact H0.out; exact H1.out; exact H2.out)).box1 (b := w.heap.size) (by simp) [.slice a xs.length c, .slice b ys.length d] 26).box1 (b := w.heap.size + 1) (by simp) [.slice none 0 0, .slice none 0 0] 26)
    simp only [List.nil_append, List.cons_append] at F1
    go_upto_region 1 with fail
    obtain ⟨W1, hW1⟩ : ∃ W1, ((w.alloc (.cells #[.slice a xs.length c, .slice b ys.length d] 26)).alloc (.cells #[.slice none 0 0, .slice none 0 0] 26)) = W1 := ⟨_, rfl⟩
    rw [hW1] at F1 ⊢
    clear hW1
    have c0_0 := F1.out.c 0 0 rfl rfl
    have c0_1 := F1.out.c 0 1 rfl rfl
    go_wp2_with (go_at_call 39; refine (HCK.out _ (F1.out.lw 0 rfl) (F1.out.lw 1 rfl) (F1.out.lw 2 rfl)).mono ?_; rintro e w2 ⟨rfl, hb⟩; have F2 := Lib.hid (F1.out.next hb); clear hb F1 c0_0 c0_1; have d1_0 := F2.out.c 1 0 rfl rfl; have d1_1 := F2.out.c 1 1 rfl rfl; have df1_0 := F2.out.f 1 0 rfl rfl; have df1_1 := F2.out.f 1 1 rfl rfl)
    have FZ := F2.out.set 1 rfl (by simp) [.slice none 0 0, .slice none 0 0] rfl
    simp only [setL, Nat.reduceAdd, List.set_cons_zero, List.set_cons_succ] at FZ
    have y0 := FZ.c 1 0 rfl rfl
    have y1 := FZ.c 1 1 rfl rfl
    refine bodyPost_ret (v := .tuple #[.agg #[.slice none 0 0, .slice none 0 0], .int .i64 Z]) ?_ rfl (retTF_none (FZ.less (.refl _) (.refl _) (List.nil_sublist _) (.refl _)))
    rw [results_ctZ rfl]
    go_simp
end Go.Proofs.Ytmjcpgfekpedkaa
