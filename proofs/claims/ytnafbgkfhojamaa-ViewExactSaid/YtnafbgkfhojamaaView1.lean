/- Walks: is it a view? -/
import Derived.Test.YtnafbgkfhojamaaVList
import Derived.Test.YtnafbgkfhojamaaViewP
import Derived.Test.YtnafbgkfhojamaaEnv
import Derived.Test.YtnafbgkfhojamaaFrJ
import Derived.Deep.CutRange
import Derived.Deep.CutBlock
set_option linter.unusedVariables false
set_option linter.unusedSimpArgs false
namespace Go.Proofs.Ytnafbgkfhojamaa
open Go.RowKit Go.Rt

set_option maxRecDepth 100000 in
set_option maxHeartbeats 2000000 in
theorem vgood_any (a b : Option Addr) (c d hi : Nat) (sh st : List Int) (off n : Int) (w : World) (h : Ints .i64 w hi a sh) (h2 : Ints .i64 w hi b st) (hh : hi ≤ w.heap.size) :
    Calls Try.prog 49 #[.agg #[.slice a sh.length c, .slice b st.length d, .int .i64 off], .int .i64 n] w fun e w' => e = .returned (.bool (viewB sh st off n)) ∧ Below w.heap.size w w' := by
  have hg := fun w' (hb : Below w.heap.size w w') => Lib.hid (good_any a c hi sh w' (h.below hb hh))
  have hl1 := h.len
  have hl2 := h2.len
  have HA := Lib.hid h
  have HB := Lib.hid h2
  cases hgd : goodB sh with
  | false =>
    have HV := Lib.hid (viewB_no (sh := sh) (st := st) (off := off) (n := n) (by rw [hgd]; simp))
    rw [hgd] at hg
    clear hgd
    clear h h2
    go_enter Try.func49, Try.ntmps49
    go_wp2_with fail
    go_step3
    go_wp2_with (go_at_call 54; refine (hg _ (by (repeat' (first | exact Below.refl _ _ | refine Below.alloc ?_ (by simp) _)))).out.mono ?_; rintro e w' ⟨rfl, rfl⟩)
    (try simp only [Exit.noGoto, Exit.inBlock, Exit.then])
    go_ret
    exact ⟨ret_bool HV.out.symm, ((Below.refl _ _).alloc (Nat.le_refl _) _)⟩
  | true =>
    have HG := Lib.hid hgd
    rw [hgd] at hg
    clear hgd
    by_cases e1 : st.length = sh.length
    case neg =>
      have HV := Lib.hid (viewB_no (sh := sh) (st := st) (off := off) (n := n) (by rintro ⟨z1, z2, z3, z4, z5⟩; omega))
      have e1b : ¬ (st.length : Int) = (sh.length : Int) := by omega
      clear h h2
      go_enter Try.func49, Try.ntmps49
      go_wp2_with fail
      go_step3
      go_wp2_with (go_at_call 54; refine (hg _ (by (repeat' (first | exact Below.refl _ _ | refine Below.alloc ?_ (by simp) _)))).out.mono ?_; rintro e w' ⟨rfl, rfl⟩)
      (try simp only [Exit.noGoto, Exit.inBlock, Exit.then])
      go_ret
      exact ⟨ret_bool HV.out.symm, ((Below.refl _ _).alloc (Nat.le_refl _) _)⟩
    by_cases e2 : 0 ≤ off
    case neg =>
      have HV := Lib.hid (viewB_no (sh := sh) (st := st) (off := off) (n := n) (by rintro ⟨z1, z2, z3, z4, z5⟩; omega))
      clear h h2
      go_enter Try.func49, Try.ntmps49
      go_wp2_with fail
      go_step3
      go_wp2_with (go_at_call 54; refine (hg _ (by (repeat' (first | exact Below.refl _ _ | refine Below.alloc ?_ (by simp) _)))).out.mono ?_; rintro e w' ⟨rfl, rfl⟩)
      (try simp only [Exit.noGoto, Exit.inBlock, Exit.then])
      go_ret
      exact ⟨ret_bool HV.out.symm, ((Below.refl _ _).alloc (Nat.le_refl _) _)⟩
    by_cases e3 : n ≤ 65536
    case neg =>
      have HV := Lib.hid (viewB_no (sh := sh) (st := st) (off := off) (n := n) (by rintro ⟨z1, z2, z3, z4, z5⟩; omega))
      clear h h2
      go_enter Try.func49, Try.ntmps49
      go_wp2_with fail
      go_step3
      go_wp2_with (go_at_call 54; refine (hg _ (by (repeat' (first | exact Below.refl _ _ | refine Below.alloc ?_ (by simp) _)))).out.mono ?_; rintro e w' ⟨rfl, rfl⟩)
      (try simp only [Exit.noGoto, Exit.inBlock, Exit.then])
      go_ret
      exact ⟨ret_bool HV.out.symm, ((Below.refl _ _).alloc (Nat.le_refl _) _)⟩
    by_cases e4 : off < n
    case neg =>
      have HV := Lib.hid (viewB_no (sh := sh) (st := st) (off := off) (n := n) (by rintro ⟨z1, z2, z3, z4, z5⟩; omega))
      clear h h2
      go_enter Try.func49, Try.ntmps49
      go_wp2_with fail
      go_step3
      go_wp2_with (go_at_call 54; refine (hg _ (by (repeat' (first | exact Below.refl _ _ | refine Below.alloc ?_ (by simp) _)))).out.mono ?_; rintro e w' ⟨rfl, rfl⟩)
      (try simp only [Exit.noGoto, Exit.inBlock, Exit.then])
      go_ret
      exact ⟨ret_bool HV.out.symm, ((Below.refl _ _).alloc (Nat.le_refl _) _)⟩
    have hD := goodB_dims HG.out
    obtain ⟨hP1, hP2⟩ := goodB_prod HG.out
    clear h h2
    go_enter Try.func49, Try.ntmps49
    have F1 := Lib.hid ((Fr.start (w := w) (I := []) (by simp)).box1 (b := w.heap.size) rfl [.slice a sh.length c, .slice b st.length d, .int .i64 off] 25)
    simp only [List.nil_append] at F1
    have z0 := F1.out.c 0 0 rfl rfl
    have z1 := F1.out.c 0 1 rfl rfl
    have z2 := F1.out.c 0 2 rfl rfl
    have HBL : Hid (Below w.heap.size w (w.alloc (.cells #[.slice a sh.length c, .slice b st.length d, .int .i64 off] 25))) := Lib.hid F1.out.bel
    have hgW := hg _ (by exact HBL.out)
    simp only [e1] at F1 HBL z0 z1 z2 hgW ⊢
    go_wp2_with fail
    go_step3
    obtain ⟨W1, hW1⟩ : ∃ W1, (w.alloc (.cells #[.slice a sh.length c, .slice b sh.length d, .int .i64 off] 25)) = W1 := ⟨_, rfl⟩
    rw [hW1] at F1 HBL hgW z0 z1 z2 ⊢
    clear hW1 hg
    go_wp2_with (go_at_call 54; refine hgW.out.mono ?_; rintro e w' ⟨rfl, rfl⟩)
    go_step3
    go_wp2_with fail
    go_loop [5, 6, 42] (fun l o i => ∃ k : Nat, k ≤ st.length ∧ i = .int .i64 k ∧ l = .int .i64 (off + topV (sh.take k) (st.take k)) ∧ o = .bool true ∧ off + topV (sh.take k) (st.take k) < n ∧ 0 ≤ off + topV (sh.take k) (st.take k) ∧ Hid (∀ x ∈ st.take k, 0 ≤ x ∧ x ≤ 65536)) (fun _ _ i => st.length - (intOf i).toNat)
    case atStart => exact ⟨0, Nat.zero_le _, rfl, by simp [topV], rfl, by simp [topV]; omega, by simp [topV]; omega, Lib.hid (by simp)⟩
    case round =>
      obtain ⟨k, hk, rfl, rfl, rfl, hlast, hl0, HO⟩ := hrel
      by_cases hlt2 : k < st.length
      · skip
        have hlt : k < sh.length := by omega
        obtain ⟨_, _, hcB⟩ := HB.out
        obtain ⟨_, _, hcA⟩ := HA.out
        obtain ⟨bs, os, rfl, hlb, hcb⟩ := hcB k hlt2
        obtain ⟨ba, oa, rfl, hla, hca⟩ := hcA k hlt
        clear hcA hcB
        rw [List.getElem?_eq_getElem hlt2] at hcb
        rw [List.getElem?_eq_getElem hlt] at hca
        simp only [Option.getD_some] at hcb hca
        have x1 := (HBL.out.cell (p := ⟨bs, os + k, none⟩) (Nat.lt_of_lt_of_le hlb hh)).trans hcb
        have x2 := (HBL.out.cell (p := ⟨ba, oa + k, none⟩) (Nat.lt_of_lt_of_le hla hh)).trans hca
        have hts := topV_take_succ e1 k hlt hlt2
        have hd := hD.at hlt
        have HNS := Lib.hid (fun h => viewB_str (sh := sh) (off := off) (n := n) hlt2 h)
        have HNT := Lib.hid (fun h => viewB_top (sh := sh) (st := st) (off := off) (n := n) (k + 1) h)
        have HAS := Lib.hid (all_take_succ hlt2 HO.out)
        obtain ⟨x, hx⟩ : ∃ x, st[k] = x := ⟨_, rfl⟩
        obtain ⟨dd, hdd⟩ : ∃ y, sh[k] = y := ⟨_, rfl⟩
        obtain ⟨T, hT⟩ : ∃ y, topV (sh.take k) (st.take k) = y := ⟨_, rfl⟩
        obtain ⟨T1, hT1⟩ : ∃ y, topV (sh.take (k + 1)) (st.take (k + 1)) = y := ⟨_, rfl⟩
        rw [hT1] at HNT
        rw [hx] at x1 HNS HAS
        rw [hdd] at x2 hd
        rw [hT1, hT, hx, hdd] at hts
        rw [hT] at hlast hl0 ⊢
        have HT1 := Lib.hid hT1
        clear hx hdd hT hcb hca hT1
        by_cases f1 : 0 ≤ x
        case neg =>
          have HV := Lib.hid (HNS.out (by omega))
          clear HNS HNT HAS HO
          go_wp2
          (try simp only [Exit.noGoto, Exit.inBlock, Exit.then])
          go_ret
          exact ⟨ret_bool HV.out.symm, HBL.out⟩
        by_cases f2 : x ≤ 65536
        case neg =>
          have HV := Lib.hid (HNS.out (by omega))
          clear HNS HNT HAS HO
          go_wp2
          (try simp only [Exit.noGoto, Exit.inBlock, Exit.then])
          go_ret
          exact ⟨ret_bool HV.out.symm, HBL.out⟩
        have hm1 : 0 ≤ x * (dd - 1) := Int.mul_nonneg f1 (by omega)
        have hm2 : x * (dd - 1) ≤ 65536 * 4096 := Int.mul_le_mul f2 (by omega) (by omega) (by omega)
        obtain ⟨M, hM⟩ : ∃ M, x * (dd - 1) = M := ⟨_, rfl⟩
        rw [hM] at hm1 hm2 hts
        have eM : ∀ [Inhabited Unit], x * (dd - 1) = M := by intro _; exact hM
        have HMM := Lib.hid hM
        clear hM
        obtain ⟨L, hL⟩ : ∃ L, off + T = L := ⟨_, rfl⟩
        rw [hL] at hlast hl0 ⊢
        obtain ⟨L1, hL1⟩ : ∃ L, off + T1 = L := ⟨_, rfl⟩
        rw [hL1] at HNT
        have hLL : L1 = L + M := by omega
        have HLL := Lib.hid hL1
        have eL : ∀ [Inhabited Unit], L + M = L1 := by intro _; omega
        have hb1 : 0 ≤ L1 ∧ L1 ≤ 1000000000 := by omega
        obtain ⟨hb1, hb2⟩ := hb1
        clear hL hL1 hts hLL
        by_cases f3 : L1 < n
        case neg =>
          have HV := Lib.hid (HNT.out (by omega))
          clear HNS HNT HAS HO HLL HMM
          go_wp2
          (try simp only [Exit.noGoto, Exit.inBlock, Exit.then])
          go_ret
          exact ⟨ret_bool HV.out.symm, HBL.out⟩
        have HO2 := Lib.hid (HAS.out ⟨f1, f2⟩)
        clear HNS HNT HAS HO
        go_wp2
        go_round
        case rel => exact ⟨k + 1, by omega, by go_num, by rw [HT1.out, HLL.out], by first | rfl | (simp; omega), by rw [HT1.out, HLL.out]; exact f3, by rw [HT1.out, HLL.out]; omega, HO2⟩
        case measure => simp [intOf]; omega
      · obtain rfl : k = st.length := by omega
        have HV := Lib.hid (viewB_yes HG.out e1 e2 e3 e4 HO.out hlast)
        clear HO
        go_wp2
        (try simp only [Exit.noGoto, Exit.inBlock, Exit.then])
        go_ret
        exact ⟨ret_bool HV.out.symm, HBL.out⟩
set_option maxRecDepth 100000 in
set_option maxHeartbeats 2000000 in
theorem mayView_any (a b : Option Addr) (c d hi : Nat) (sh st : List Int) (off n : Int) (w : World) (h : Ints .i64 w hi a sh) (h2 : Ints .i64 w hi b st) (hh : hi ≤ w.heap.size) :
    Calls Try.prog 8 #[.agg #[.slice a sh.length c, .slice b st.length d, .int .i64 off], .int .i64 n] w fun e w' => e = .returned (.bool (viewB sh st off n)) ∧ Below w.heap.size w w' := by
  have hg := fun w' (hb : Below w.heap.size w w') => Lib.hid (rmay_any a c hi sh w' (h.below hb hh))
  have hl1 := h.len
  have hl2 := h2.len
  have HA := Lib.hid h
  have HB := Lib.hid h2
  cases hgd : goodB sh with
  | false =>
    have HV := Lib.hid (viewB_no (sh := sh) (st := st) (off := off) (n := n) (by rw [hgd]; simp))
    rw [hgd] at hg
    clear hgd
    clear h h2
    go_enter Try.func8, Try.ntmps8
    go_wp2_with (go_at_call 31; refine (hg _ (by (repeat' (first | exact Below.refl _ _ | refine Below.alloc ?_ (by simp) _)))).out.mono ?_; rintro e w' ⟨rfl, rfl⟩)
    (try simp only [Exit.noGoto, Exit.inBlock, Exit.then])
    go_ret
    exact ⟨ret_bool HV.out.symm, ((Below.refl _ _).alloc (Nat.le_refl _) _)⟩
  | true =>
    have HG := Lib.hid hgd
    rw [hgd] at hg
    clear hgd
    by_cases e1 : st.length = sh.length
    case neg =>
      have HV := Lib.hid (viewB_no (sh := sh) (st := st) (off := off) (n := n) (by rintro ⟨z1, z2, z3, z4, z5⟩; omega))
      have e1b : ¬ (st.length : Int) = (sh.length : Int) := by omega
      clear h h2
      go_enter Try.func8, Try.ntmps8
      go_wp2_with (go_at_call 31; refine (hg _ (by (repeat' (first | exact Below.refl _ _ | refine Below.alloc ?_ (by simp) _)))).out.mono ?_; rintro e w' ⟨rfl, rfl⟩)
      (try simp only [Exit.noGoto, Exit.inBlock, Exit.then])
      go_ret
      exact ⟨ret_bool HV.out.symm, ((Below.refl _ _).alloc (Nat.le_refl _) _)⟩
    by_cases e2 : 0 ≤ off
    case neg =>
      have HV := Lib.hid (viewB_no (sh := sh) (st := st) (off := off) (n := n) (by rintro ⟨z1, z2, z3, z4, z5⟩; omega))
      clear h h2
      go_enter Try.func8, Try.ntmps8
      go_wp2_with (go_at_call 31; refine (hg _ (by (repeat' (first | exact Below.refl _ _ | refine Below.alloc ?_ (by simp) _)))).out.mono ?_; rintro e w' ⟨rfl, rfl⟩)
      (try simp only [Exit.noGoto, Exit.inBlock, Exit.then])
      go_ret
      exact ⟨ret_bool HV.out.symm, ((Below.refl _ _).alloc (Nat.le_refl _) _)⟩
    by_cases e3 : n ≤ 65536
    case neg =>
      have HV := Lib.hid (viewB_no (sh := sh) (st := st) (off := off) (n := n) (by rintro ⟨z1, z2, z3, z4, z5⟩; omega))
      clear h h2
      go_enter Try.func8, Try.ntmps8
      go_wp2_with (go_at_call 31; refine (hg _ (by (repeat' (first | exact Below.refl _ _ | refine Below.alloc ?_ (by simp) _)))).out.mono ?_; rintro e w' ⟨rfl, rfl⟩)
      (try simp only [Exit.noGoto, Exit.inBlock, Exit.then])
      go_ret
      exact ⟨ret_bool HV.out.symm, ((Below.refl _ _).alloc (Nat.le_refl _) _)⟩
    by_cases e4 : off < n
    case neg =>
      have HV := Lib.hid (viewB_no (sh := sh) (st := st) (off := off) (n := n) (by rintro ⟨z1, z2, z3, z4, z5⟩; omega))
      clear h h2
      go_enter Try.func8, Try.ntmps8
      go_wp2_with (go_at_call 31; refine (hg _ (by (repeat' (first | exact Below.refl _ _ | refine Below.alloc ?_ (by simp) _)))).out.mono ?_; rintro e w' ⟨rfl, rfl⟩)
      (try simp only [Exit.noGoto, Exit.inBlock, Exit.then])
      go_ret
      exact ⟨ret_bool HV.out.symm, ((Below.refl _ _).alloc (Nat.le_refl _) _)⟩
    have hD := goodB_dims HG.out
    obtain ⟨hP1, hP2⟩ := goodB_prod HG.out
    clear h h2
    go_enter Try.func8, Try.ntmps8
    have F1 := Lib.hid ((Fr.start (w := w) (I := []) (by simp)).box1 (b := w.heap.size) rfl [.slice a sh.length c, .slice b st.length d, .int .i64 off] 25)
    simp only [List.nil_append] at F1
    have z0 := F1.out.c 0 0 rfl rfl
    have z1 := F1.out.c 0 1 rfl rfl
    have z2 := F1.out.c 0 2 rfl rfl
    have HBL : Hid (Below w.heap.size w (w.alloc (.cells #[.slice a sh.length c, .slice b st.length d, .int .i64 off] 25))) := Lib.hid F1.out.bel
    have hgW := hg _ (by exact HBL.out)
    simp only [e1] at F1 HBL z0 z1 z2 hgW ⊢
    go_upto_region 1 with fail
    obtain ⟨W1, hW1⟩ : ∃ W1, (w.alloc (.cells #[.slice a sh.length c, .slice b sh.length d, .int .i64 off] 25)) = W1 := ⟨_, rfl⟩
    rw [hW1] at F1 HBL hgW z0 z1 z2 ⊢
    clear hW1 hg
    go_wp2_with (go_at_call 31; refine hgW.out.mono ?_; rintro e w' ⟨rfl, rfl⟩)
    go_loopw [5, 6] (fun l i wr => ∃ k : Nat, k ≤ st.length ∧ i = .int .i64 k ∧ l = .int .i64 (off + topV (sh.take k) (st.take k)) ∧ off + topV (sh.take k) (st.take k) ≤ 65536 + 268435456 * (k : Int) ∧ 0 ≤ off + topV (sh.take k) (st.take k) ∧ Hid (∀ x ∈ st.take k, 0 ≤ x ∧ x ≤ 65536) ∧ ∃ q, wr = W1.drewN q) (fun _ i _ => st.length - (intOf i).toNat)
    case atStart => exact ⟨0, Nat.zero_le _, rfl, by simp [topV], by simp [topV]; omega, by simp [topV]; omega, Lib.hid (by simp), 0, rfl⟩
    case round =>
      obtain ⟨k, hk, rfl, rfl, hlast, hl0, HO, q, rfl⟩ := hrel
      by_cases hlt2 : k < st.length
      · skip
        have hlt : k < sh.length := by omega
        have hk4 := (goodB_iff.1 HG.out).1
        obtain ⟨_, _, hcB⟩ := HB.out
        obtain ⟨_, _, hcA⟩ := HA.out
        obtain ⟨bs, os, rfl, hlb, hcb⟩ := hcB k hlt2
        obtain ⟨ba, oa, rfl, hla, hca⟩ := hcA k hlt
        clear hcA hcB
        rw [List.getElem?_eq_getElem hlt2] at hcb
        rw [List.getElem?_eq_getElem hlt] at hca
        simp only [Option.getD_some] at hcb hca
        have x1 := (HBL.out.cell (p := ⟨bs, os + k, none⟩) (Nat.lt_of_lt_of_le hlb hh)).trans hcb
        have x2 := (HBL.out.cell (p := ⟨ba, oa + k, none⟩) (Nat.lt_of_lt_of_le hla hh)).trans hca
        have hts := topV_take_succ e1 k hlt hlt2
        have hd := hD.at hlt
        have HNS := Lib.hid (fun h => viewB_str (sh := sh) (off := off) (n := n) hlt2 h)
        have HAS := Lib.hid (all_take_succ hlt2 HO.out)
        obtain ⟨x, hx⟩ : ∃ x, st[k] = x := ⟨_, rfl⟩
        obtain ⟨dd, hdd⟩ : ∃ y, sh[k] = y := ⟨_, rfl⟩
        obtain ⟨T, hT⟩ : ∃ y, topV (sh.take k) (st.take k) = y := ⟨_, rfl⟩
        obtain ⟨T1, hT1⟩ : ∃ y, topV (sh.take (k + 1)) (st.take (k + 1)) = y := ⟨_, rfl⟩
        rw [hx] at x1 HNS HAS
        rw [hdd] at x2 hd
        rw [hT1, hT, hx, hdd] at hts
        rw [hT] at hlast hl0 ⊢
        have HT1 := Lib.hid hT1
        clear hx hdd hT hcb hca hT1
        by_cases f1 : 0 ≤ x
        case neg =>
          have HV := Lib.hid (HNS.out (by omega))
          clear HNS HAS HO
          go_wp2
          go_ret
          exact ⟨ret_bool HV.out.symm, below_drewN HBL.out _⟩
        by_cases f2 : x ≤ 65536
        case neg =>
          have HV := Lib.hid (HNS.out (by omega))
          clear HNS HAS HO
          go_wp2
          go_ret
          exact ⟨ret_bool HV.out.symm, below_drewN HBL.out _⟩
        have hm0 : x * (dd - 1) = (dd - 1) * x := Int.mul_comm _ _
        have hm1 : 0 ≤ (dd - 1) * x := Int.mul_nonneg (by omega) f1
        have hm2 : (dd - 1) * x ≤ 4096 * 65536 := Int.mul_le_mul (by omega) f2 f1 (by omega)
        rw [hm0] at hts
        clear hm0
        have hwr0 : IntKind.i64.wrap (dd - 1) = dd - 1 := IntWalk.i64_in _ (by omega)
        have hwr1 : IntKind.i64.wrap ((dd - 1) * x) = (dd - 1) * x := IntWalk.i64_in _ (by omega)
        have hwr2 : IntKind.i64.wrap (off + T + (dd - 1) * x) = off + T + (dd - 1) * x := IntWalk.i64_in _ (by omega)
        have hb1 : off + T1 ≤ 65536 + 268435456 * ((k + 1 : Nat) : Int) ∧ 0 ≤ off + T1 := by omega
        have HTS := Lib.hid hts
        clear hts
        have HO2 := Lib.hid (HAS.out ⟨f1, f2⟩)
        clear HNS HAS HO
        go_wp2
        go_quiet (fail)
        clear hwr0 hwr1 hwr2
        go_wp2
        go_roundw
        case rel =>
          refine ⟨k + 1, by omega, by go_num, ?_, by rw [HT1.out]; exact hb1.1, by rw [HT1.out]; exact hb1.2, HO2, _, by first | rfl | exact World.drewN_drewN _ _ _⟩
          rw [HT1.out]; congr 1; have := HTS.out; omega
        case measure => simp [intOf]; omega
      · obtain rfl : k = st.length := by omega
        have HV := Lib.hid (viewB_last HG.out e1 e2 e3 e4 HO.out)
        rw [e1] at HV
        clear HO
        go_wp2
        go_ret
        exact ⟨ret_bool (by rw [HV.out, List.take_length]), below_drewN HBL.out _⟩
end Go.Proofs.Ytnafbgkfhojamaa
