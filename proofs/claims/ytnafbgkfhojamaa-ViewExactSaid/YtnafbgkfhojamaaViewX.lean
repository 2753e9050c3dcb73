/- Walks: views that are refused, reshaped; views written over. -/
import Derived.Test.YtnafbgkfhojamaaViewW
import Derived.Test.YtnafbgkfhojamaaViewD
import Derived.Test.YtnafbgkfhojamaaParts
import Derived.Deep.RegionWith
set_option linter.unusedVariables false
set_option linter.unusedSimpArgs false
namespace Go.Proofs.Ytnafbgkfhojamaa
open Go.RowKit Go.Rt
theorem lst12 {α : Type} {l : List α} (h : l.length = 12) : ∃ x0 x1 x2 x3 x4 x5 x6 x7 x8 x9 x10 x11, l = [x0, x1, x2, x3, x4, x5, x6, x7, x8, x9, x10, x11] := by
  match l, h with
  | [x0, x1, x2, x3, x4, x5, x6, x7, x8, x9, x10, x11], _ => exact ⟨x0, x1, x2, x3, x4, x5, x6, x7, x8, x9, x10, x11, rfl⟩
theorem lst21 {α : Type} {l : List α} (h : l.length = 21) : ∃ x0 x1 x2 x3 x4 x5 x6 x7 x8 x9 x10 x11 x12 x13 x14 x15 x16 x17 x18 x19 x20, l = [x0, x1, x2, x3, x4, x5, x6, x7, x8, x9, x10, x11, x12, x13, x14, x15, x16, x17, x18, x19, x20] := by
  match l, h with
  | [x0, x1, x2, x3, x4, x5, x6, x7, x8, x9, x10, x11, x12, x13, x14, x15, x16, x17, x18, x19, x20], _ => exact ⟨x0, x1, x2, x3, x4, x5, x6, x7, x8, x9, x10, x11, x12, x13, x14, x15, x16, x17, x18, x19, x20, rfl⟩

theorem grownR (w : World) (row : Option Nat) : w.grownBy w row := ⟨rfl, rfl, rfl, Nat.le_refl _, fun _ _ _ => rfl⟩
theorem infoIntX : (Try.prog.info? 3).map (fun i => (i.zero, i.size, i.bytes)) = some (some (.int .i64 0), 1, 8) := by kernel_rfl
/-- What is told beside an error: nothing but where it is 0. -/
def okL (z : Int) (l : List Int) : List Int := if z = 0 then l else []
def okI (z x : Int) : Int := if z = 0 then x else 0
theorem okL_0 (l : List Int) : okL 0 l = l := rfl
theorem okI_0 (x : Int) : okI 0 x = x := rfl
theorem okL_1 (l : List Int) : okL 1 l = [] := rfl
theorem okI_1 (x : Int) : okI 1 x = 0 := rfl
theorem okL_2 (l : List Int) : okL 2 l = [] := rfl
theorem okI_2 (x : Int) : okI 2 x = 0 := rfl
theorem okL_wf {z : Int} {l : List Int} (h : z = 0 → ∀ x ∈ l, (Lit.int .i64 x).wf = true) : ∀ x ∈ okL z l, (Lit.int .i64 x).wf = true := by
  intro x hx
  unfold okL at hx
  split at hx
  · exact h (by assumption) x hx
  · cases hx
theorem okL_len (z : Int) (l : List Int) : (okL z l).length ≤ l.length := by unfold okL; split <;> simp
def trZ (sh st : List Int) (off : Int) (axs : List Int) : Int := if viewB sh st off 65536 = true then (if axesB axs sh.length = true then 0 else 2) else 1
def slB (sh : List Int) (m f t : Int) : Bool := decide (0 ≤ m) && (decide (m < sh.length) && (decide (0 ≤ f) && (decide (f < t) && decide (t ≤ sh[m.toNat]?.getD 0))))
def slZ (sh st : List Int) (off m f t : Int) : Int := if viewB sh st off 65536 = true then (if slB sh m f t = true then 0 else 2) else 1
def wdZ (sh st : List Int) (off : Int) (s : List Int) : Int := if (viewB sh st off 65536 && goodB s) = true then (if goesB sh s = true then 0 else 2) else 1
def plB (sh st : List Int) (off : Int) : Bool := decide (off = 0) && decide (st = strI sh)
def rsZ (sh st : List Int) (off : Int) (s : List Int) : Int := if (viewB sh st off 65536 && goodB s) = true then (if (decide (prodI sh = prodI s) && plB sh st off) = true then 0 else 2) else 1
def ofZ (s : List Int) : Int := if goodB s = true then 0 else 1
theorem own_intsE {k : IntKind} {w : World} {base c : Nat} {e : TypeId} {a : Option Addr} {xs : List Int} (h : w.ownsRow base e 1 (.slice a xs.length c) xs.length (xs.map (Value.int k))) (hwf : ∀ x ∈ xs, (Lit.int k x).wf = true) : Ints k w w.heap.size a xs := by
  obtain ⟨a2, c2, he, hi⟩ := own_ints h hwf
  simp only [Value.slice.injEq] at he
  obtain ⟨rfl, _, _⟩ := he
  exact hi
theorem ints_nil (w : World) (hi : Nat) : Ints .i64 w hi none [] := ⟨by simp, by simp, fun i h => by simp at h⟩
theorem retVE_none {w w' : World} {z : Int} {B : List (Nat × List Value)} {I : List (IntKind × Option Addr × List Int)} (h : Fr w.heap.size w w' B I [] []) : RetVE w [] [] 0 z (.returned (.tuple #[.agg #[.slice none 0 0, .slice none 0 0, .int .i64 0], .int .i64 z])) w' :=
  ⟨none, 0, none, 0, rfl, ((h.rows.addNil _).addNil _)⟩

set_option maxRecDepth 100000 in
set_option maxHeartbeats 4000000 in
theorem vof_all (a : Option Addr) (c : Nat) (sh : List Int) (w : World) (h : Ints .i64 w w.heap.size a sh) :
    Calls Try.prog 33 #[.slice a sh.length c] w (RetVE w (okL (ofZ sh) sh) (okL (ofZ sh) (strI sh)) 0 (ofZ sh)) := by
  cases hg : goodB sh with
  | true =>
    rw [show ofZ sh = 0 by unfold ofZ; rw [if_pos hg], okL_0, okL_0]
    exact of_good a c sh w h hg
  | false =>
    rw [show ofZ sh = 1 by unfold ofZ; rw [hg]; rfl, okL_1, okL_1]
    have H0 := Lib.hid h
    have hgd := fun W (h : Ints .i64 W W.heap.size a sh) => good_any a c _ sh W h
    rw [hg] at hgd
    clear h hg
    go_enter Try.func33, Try.ntmps33
    have F1 := Lib.hid ((Fr.start (w := w) (I := [(.i64, a, sh)]) (by intro z hz; simp at hz; subst hz; exact H0.out)).box1 (b := w.heap.size) (by simp) [.slice none 0 0, .slice none 0 0, .int .i64 0] 25)
    simp only [List.nil_append, List.cons_append] at F1
    go_upto_region 1 with fail
    obtain ⟨W1, hW1⟩ : ∃ W1, (w.alloc (.cells #[.slice none 0 0, .slice none 0 0, .int .i64 0] 25)) = W1 := ⟨_, rfl⟩
    rw [hW1] at F1 ⊢
    clear hW1
    have cf0_0 := F1.out.f 0 0 rfl rfl
    have cf0_1 := F1.out.f 0 1 rfl rfl
    have cf0_2 := F1.out.f 0 2 rfl rfl
    have c0_0 := F1.out.c 0 0 rfl rfl
    have c0_1 := F1.out.c 0 1 rfl rfl
    have c0_2 := F1.out.c 0 2 rfl rfl
    go_wp2_with (go_at_call 54; refine (hgd _ (F1.out.lw 0 rfl)).mono ?_; rintro e w' ⟨rfl, rfl⟩; skip)
    (try simp only [Exit.noGoto, Exit.inBlock, Exit.then])
    have FZ := F1.out.set 0 rfl (by simp) [.slice none 0 0, .slice none 0 0, .int .i64 0] rfl
    simp only [setL, Nat.reduceAdd, List.set_cons_zero, List.set_cons_succ] at FZ
    have z0 := FZ.c 0 0 rfl rfl
    have z1 := FZ.c 0 1 rfl rfl
    have z2 := FZ.c 0 2 rfl rfl
    refine bodyPost_ret (v := .tuple #[.agg #[.slice none 0 0, .slice none 0 0, .int .i64 0], .int .i64 1]) ?_ rfl (retVE_none FZ)
    rw [results_ctW rfl]
    go_simp
set_option maxRecDepth 100000 in
set_option maxHeartbeats 4000000 in
theorem vtrans_all (a b p : Option Addr) (c d cp : Nat) (sh st xs : List Int) (off : Int) (w : World) (h : Ints .i64 w w.heap.size a sh) (h2 : Ints .i64 w w.heap.size b st) (h3 : Ints .i64 w w.heap.size p xs) :
    Calls Try.prog 25 #[.agg #[.slice a sh.length c, .slice b st.length d, .int .i64 off], .slice p xs.length cp] w (RetVE w (okL (trZ sh st off xs) (permL sh xs)) (okL (trZ sh st off xs) (permL st xs)) (okI (trZ sh st off xs) off) (trZ sh st off xs)) := by
  have hgv := fun W (h : Ints .i64 W W.heap.size a sh) (h2 : Ints .i64 W W.heap.size b st) => vgood_any a b c d W.heap.size sh st off 65536 W h h2 (Nat.le_refl _)
  have H0 := Lib.hid h
  have H1 := Lib.hid h2
  have H2 := Lib.hid h3
  cases hv : viewB sh st off 65536 with
  | false =>
    rw [show trZ sh st off xs = 1 by unfold trZ; rw [hv]; rfl, okL_1, okL_1, okI_1]
    rw [hv] at hgv
    clear h h2 h3 hv
    go_enter Try.func25, Try.ntmps25
    have F1 := Lib.hid (((Fr.start (w := w) (I := [(.i64, a, sh), (.i64, b, st), (.i64, p, xs)]) (by intro z hz; simp at hz; rcases hz with rfl | rfl | rfl; exact H0.out; exact H1.out; exact H2.out)).box1 (b := w.heap.size) (by simp) [.slice a sh.length c, .slice b st.length d, .int .i64 off] 25).box1 (b := w.heap.size + 1) (by simp) [.slice none 0 0, .slice none 0 0, .int .i64 0] 25)
    simp only [List.nil_append, List.cons_append] at F1
    go_upto_region 1 with fail
    obtain ⟨W1, hW1⟩ : ∃ W1, ((w.alloc (.cells #[.slice a sh.length c, .slice b st.length d, .int .i64 off] 25)).alloc (.cells #[.slice none 0 0, .slice none 0 0, .int .i64 0] 25)) = W1 := ⟨_, rfl⟩
    rw [hW1] at F1 ⊢
    clear hW1
    have c0_0 := F1.out.c 0 0 rfl rfl
    have c0_1 := F1.out.c 0 1 rfl rfl
    have c0_2 := F1.out.c 0 2 rfl rfl
    have c1_0 := F1.out.c 1 0 rfl rfl
    have c1_1 := F1.out.c 1 1 rfl rfl
    have c1_2 := F1.out.c 1 2 rfl rfl
    go_wp2_with (go_at_call 49; refine (hgv _ (F1.out.lw 0 rfl) (F1.out.lw 1 rfl)).mono ?_; rintro e w2 ⟨rfl, hb⟩; have F2 := Lib.hid (F1.out.next hb); clear hb F1 c0_0 c0_1 c0_2 c1_0 c1_1 c1_2; have d0_0 := F2.out.c 0 0 rfl rfl; have d0_1 := F2.out.c 0 1 rfl rfl; have d0_2 := F2.out.c 0 2 rfl rfl; have d1_0 := F2.out.c 1 0 rfl rfl; have d1_1 := F2.out.c 1 1 rfl rfl; have d1_2 := F2.out.c 1 2 rfl rfl; have df1_0 := F2.out.f 1 0 rfl rfl; have df1_1 := F2.out.f 1 1 rfl rfl; have df1_2 := F2.out.f 1 2 rfl rfl)
    (try simp only [Exit.noGoto, Exit.inBlock, Exit.then])
    have FZ := F2.out.set 1 rfl (by simp) [.slice none 0 0, .slice none 0 0, .int .i64 0] rfl
    simp only [setL, Nat.reduceAdd, List.set_cons_zero, List.set_cons_succ] at FZ
    have z0 := FZ.c 1 0 rfl rfl
    have z1 := FZ.c 1 1 rfl rfl
    have z2 := FZ.c 1 2 rfl rfl
    refine bodyPost_ret (v := .tuple #[.agg #[.slice none 0 0, .slice none 0 0, .int .i64 0], .int .i64 1]) ?_ rfl (retVE_none FZ)
    rw [results_ctW rfl]
    go_simp
  | true =>
    cases hx : axesB xs sh.length with
    | true =>
      rw [show trZ sh st off xs = 0 by unfold trZ; rw [if_pos hv, if_pos hx], okL_0, okL_0, okI_0]
      exact vtrans_good a b p c d cp sh st xs off w h h2 h3 hv hx
    | false =>
      rw [show trZ sh st off xs = 2 by unfold trZ; rw [if_pos hv, hx]; rfl, okL_2, okL_2, okI_2]
      rw [hv] at hgv
      have h4 := (goodB_iff.1 (viewB_iff.1 hv).1).1
      have hod := fun W (h : Ints .i64 W W.heap.size p xs) => order_any p cp _ xs sh.length W h (Nat.le_refl _) (by omega)
      rw [hx] at hod
      clear h h2 h3 hv hx
      go_enter Try.func25, Try.ntmps25
      have F1 := Lib.hid (((Fr.start (w := w) (I := [(.i64, a, sh), (.i64, b, st), (.i64, p, xs)]) (by intro z hz; simp at hz; rcases hz with rfl | rfl | rfl; exact H0.out; exact H1.out; exact H2.out)).box1 (b := w.heap.size) (by simp) [.slice a sh.length c, .slice b st.length d, .int .i64 off] 25).box1 (b := w.heap.size + 1) (by simp) [.slice none 0 0, .slice none 0 0, .int .i64 0] 25)
      simp only [List.nil_append, List.cons_append] at F1
      go_upto_region 1 with fail
      obtain ⟨W1, hW1⟩ : ∃ W1, ((w.alloc (.cells #[.slice a sh.length c, .slice b st.length d, .int .i64 off] 25)).alloc (.cells #[.slice none 0 0, .slice none 0 0, .int .i64 0] 25)) = W1 := ⟨_, rfl⟩
      rw [hW1] at F1 ⊢
      clear hW1
      have c0_0 := F1.out.c 0 0 rfl rfl
      have c0_1 := F1.out.c 0 1 rfl rfl
      have c0_2 := F1.out.c 0 2 rfl rfl
      have c1_0 := F1.out.c 1 0 rfl rfl
      have c1_1 := F1.out.c 1 1 rfl rfl
      have c1_2 := F1.out.c 1 2 rfl rfl
      go_wp2_with (first | (go_at_call 49; refine (hgv _ (F1.out.lw 0 rfl) (F1.out.lw 1 rfl)).mono ?_; rintro e w2 ⟨rfl, hb⟩; have F2 := Lib.hid (F1.out.next hb); clear hb F1 c0_0 c0_1 c0_2 c1_0 c1_1 c1_2; have d0_0 := F2.out.c 0 0 rfl rfl; have d0_1 := F2.out.c 0 1 rfl rfl; have d0_2 := F2.out.c 0 2 rfl rfl; have d1_0 := F2.out.c 1 0 rfl rfl; have d1_1 := F2.out.c 1 1 rfl rfl; have d1_2 := F2.out.c 1 2 rfl rfl; have df1_0 := F2.out.f 1 0 rfl rfl; have df1_1 := F2.out.f 1 1 rfl rfl; have df1_2 := F2.out.f 1 2 rfl rfl) | (go_at_call 58; refine (hod _ (F2.out.lw 2 rfl)).mono ?_; rintro e w3 ⟨rfl, hb⟩; have F3 := Lib.hid (F2.out.next hb); clear hb F2 d0_0 d0_1 d0_2 d1_0 d1_1 d1_2 df1_0 df1_1 df1_2; have e1_0 := F3.out.c 1 0 rfl rfl; have e1_1 := F3.out.c 1 1 rfl rfl; have e1_2 := F3.out.c 1 2 rfl rfl; have ef1_0 := F3.out.f 1 0 rfl rfl; have ef1_1 := F3.out.f 1 1 rfl rfl; have ef1_2 := F3.out.f 1 2 rfl rfl) | fail)
      (try simp only [Exit.noGoto, Exit.inBlock, Exit.then])
      have FZ := F3.out.set 1 rfl (by simp) [.slice none 0 0, .slice none 0 0, .int .i64 0] rfl
      simp only [setL, Nat.reduceAdd, List.set_cons_zero, List.set_cons_succ] at FZ
      have z0 := FZ.c 1 0 rfl rfl
      have z1 := FZ.c 1 1 rfl rfl
      have z2 := FZ.c 1 2 rfl rfl
      refine bodyPost_ret (v := .tuple #[.agg #[.slice none 0 0, .slice none 0 0, .int .i64 0], .int .i64 2]) ?_ rfl (retVE_none FZ)
      rw [results_ctW rfl]
      go_simp
set_option maxRecDepth 100000 in
set_option maxHeartbeats 4000000 in
theorem vslice_all (a b : Option Addr) (c d : Nat) (sh st : List Int) (off : Int) (m f t : Int) (w : World) (h : Ints .i64 w w.heap.size a sh) (h2 : Ints .i64 w w.heap.size b st) :
    Calls Try.prog 29 #[.agg #[.slice a sh.length c, .slice b st.length d, .int .i64 off], .int .i64 m, .int .i64 f, .int .i64 t] w (RetVE w (okL (slZ sh st off m f t) (sh.set m.toNat (t - f))) (okL (slZ sh st off m f t) st) (okI (slZ sh st off m f t) (off + f * (st[m.toNat]?.getD 0))) (slZ sh st off m f t)) := by
  have hgv := fun W (h : Ints .i64 W W.heap.size a sh) (h2 : Ints .i64 W W.heap.size b st) => vgood_any a b c d W.heap.size sh st off 65536 W h h2 (Nat.le_refl _)
  have H0 := Lib.hid h
  have H1 := Lib.hid h2
  cases hv : viewB sh st off 65536 with
  | false =>
    rw [show slZ sh st off m f t = 1 by unfold slZ; rw [hv]; rfl, okL_1, okL_1, okI_1]
    rw [hv] at hgv
    clear h h2 hv
    go_enter Try.func29, Try.ntmps29
    have F1 := Lib.hid (((Fr.start (w := w) (I := [(.i64, a, sh), (.i64, b, st)]) (by intro z hz; simp at hz; rcases hz with rfl | rfl; exact H0.out; exact H1.out)).box1 (b := w.heap.size) (by simp) [.slice a sh.length c, .slice b st.length d, .int .i64 off] 25).box1 (b := w.heap.size + 1) (by simp) [.slice none 0 0, .slice none 0 0, .int .i64 0] 25)
    simp only [List.nil_append, List.cons_append] at F1
    go_upto_region 1 with fail
    obtain ⟨W1, hW1⟩ : ∃ W1, ((w.alloc (.cells #[.slice a sh.length c, .slice b st.length d, .int .i64 off] 25)).alloc (.cells #[.slice none 0 0, .slice none 0 0, .int .i64 0] 25)) = W1 := ⟨_, rfl⟩
    rw [hW1] at F1 ⊢
    clear hW1
    have c0_0 := F1.out.c 0 0 rfl rfl
    have c0_1 := F1.out.c 0 1 rfl rfl
    have c0_2 := F1.out.c 0 2 rfl rfl
    have c1_0 := F1.out.c 1 0 rfl rfl
    have c1_1 := F1.out.c 1 1 rfl rfl
    have c1_2 := F1.out.c 1 2 rfl rfl
    go_wp2_with (go_at_call 49; refine (hgv _ (F1.out.lw 0 rfl) (F1.out.lw 1 rfl)).mono ?_; rintro e w2 ⟨rfl, hb⟩; have F2 := Lib.hid (F1.out.next hb); clear hb F1 c0_0 c0_1 c0_2 c1_0 c1_1 c1_2; have d0_0 := F2.out.c 0 0 rfl rfl; have d0_1 := F2.out.c 0 1 rfl rfl; have d0_2 := F2.out.c 0 2 rfl rfl; have d1_0 := F2.out.c 1 0 rfl rfl; have d1_1 := F2.out.c 1 1 rfl rfl; have d1_2 := F2.out.c 1 2 rfl rfl; have df1_0 := F2.out.f 1 0 rfl rfl; have df1_1 := F2.out.f 1 1 rfl rfl; have df1_2 := F2.out.f 1 2 rfl rfl)
    (try simp only [Exit.noGoto, Exit.inBlock, Exit.then])
    have FZ := F2.out.set 1 rfl (by simp) [.slice none 0 0, .slice none 0 0, .int .i64 0] rfl
    simp only [setL, Nat.reduceAdd, List.set_cons_zero, List.set_cons_succ] at FZ
    have z0 := FZ.c 1 0 rfl rfl
    have z1 := FZ.c 1 1 rfl rfl
    have z2 := FZ.c 1 2 rfl rfl
    refine bodyPost_ret (v := .tuple #[.agg #[.slice none 0 0, .slice none 0 0, .int .i64 0], .int .i64 1]) ?_ rfl (retVE_none FZ)
    rw [results_ctW rfl]
    go_simp
  | true =>
    cases hs : slB sh m f t with
    | true =>
      rw [show slZ sh st off m f t = 0 by unfold slZ; rw [if_pos hv, if_pos hs], okL_0, okL_0, okI_0]
      unfold slB at hs
      simp only [Bool.and_eq_true, decide_eq_true_eq] at hs
      obtain ⟨s0, s1, s2, s3, s4⟩ := hs
      obtain ⟨m, rfl⟩ : ∃ k : Nat, m = k := ⟨m.toNat, by omega⟩
      obtain ⟨f, rfl⟩ : ∃ k : Nat, f = k := ⟨f.toNat, by omega⟩
      obtain ⟨t, rfl⟩ : ∃ k : Nat, t = k := ⟨t.toNat, by omega⟩
      rw [Int.toNat_natCast] at s4 ⊢
      exact vslice_good a b c d sh st off m f t w h h2 hv (by omega) (by omega) s4
    | false =>
      rw [show slZ sh st off m f t = 2 by unfold slZ; rw [if_pos hv, hs]; rfl, okL_2, okL_2, okI_2]
      rw [hv] at hgv
      have hl1 := h.len
      unfold slB at hs
      simp only [Bool.and_eq_false_iff, decide_eq_false_iff_not] at hs
      clear hv
      by_cases s0 : m < 0
      · skip
        clear h h2 hs
        go_enter Try.func29, Try.ntmps29
        have F1 := Lib.hid (((Fr.start (w := w) (I := [(.i64, a, sh), (.i64, b, st)]) (by intro z hz; simp at hz; rcases hz with rfl | rfl; exact H0.out; exact H1.out)).box1 (b := w.heap.size) (by simp) [.slice a sh.length c, .slice b st.length d, .int .i64 off] 25).box1 (b := w.heap.size + 1) (by simp) [.slice none 0 0, .slice none 0 0, .int .i64 0] 25)
        simp only [List.nil_append, List.cons_append] at F1
        go_upto_region 1 with fail
        obtain ⟨W1, hW1⟩ : ∃ W1, ((w.alloc (.cells #[.slice a sh.length c, .slice b st.length d, .int .i64 off] 25)).alloc (.cells #[.slice none 0 0, .slice none 0 0, .int .i64 0] 25)) = W1 := ⟨_, rfl⟩
        rw [hW1] at F1 ⊢
        clear hW1
        have c0_0 := F1.out.c 0 0 rfl rfl
        have c0_1 := F1.out.c 0 1 rfl rfl
        have c0_2 := F1.out.c 0 2 rfl rfl
        have c1_0 := F1.out.c 1 0 rfl rfl
        have c1_1 := F1.out.c 1 1 rfl rfl
        have c1_2 := F1.out.c 1 2 rfl rfl
        go_wp2_with (go_at_call 49; refine (hgv _ (F1.out.lw 0 rfl) (F1.out.lw 1 rfl)).mono ?_; rintro e w2 ⟨rfl, hb⟩; have F2 := Lib.hid (F1.out.next hb); clear hb F1 c0_0 c0_1 c0_2 c1_0 c1_1 c1_2; have d0_0 := F2.out.c 0 0 rfl rfl; have d0_1 := F2.out.c 0 1 rfl rfl; have d0_2 := F2.out.c 0 2 rfl rfl; have d1_0 := F2.out.c 1 0 rfl rfl; have d1_1 := F2.out.c 1 1 rfl rfl; have d1_2 := F2.out.c 1 2 rfl rfl; have df1_0 := F2.out.f 1 0 rfl rfl; have df1_1 := F2.out.f 1 1 rfl rfl; have df1_2 := F2.out.f 1 2 rfl rfl)
        (try simp only [Exit.noGoto, Exit.inBlock, Exit.then])
        have FZ := F2.out.set 1 rfl (by simp) [.slice none 0 0, .slice none 0 0, .int .i64 0] rfl
        simp only [setL, Nat.reduceAdd, List.set_cons_zero, List.set_cons_succ] at FZ
        have z0 := FZ.c 1 0 rfl rfl
        have z1 := FZ.c 1 1 rfl rfl
        have z2 := FZ.c 1 2 rfl rfl
        refine bodyPost_ret (v := .tuple #[.agg #[.slice none 0 0, .slice none 0 0, .int .i64 0], .int .i64 2]) ?_ rfl (retVE_none FZ)
        rw [results_ctW rfl]
        go_simp
      by_cases s1 : (sh.length : Int) ≤ m
      · skip
        clear h h2 hs
        go_enter Try.func29, Try.ntmps29
        have F1 := Lib.hid (((Fr.start (w := w) (I := [(.i64, a, sh), (.i64, b, st)]) (by intro z hz; simp at hz; rcases hz with rfl | rfl; exact H0.out; exact H1.out)).box1 (b := w.heap.size) (by simp) [.slice a sh.length c, .slice b st.length d, .int .i64 off] 25).box1 (b := w.heap.size + 1) (by simp) [.slice none 0 0, .slice none 0 0, .int .i64 0] 25)
        simp only [List.nil_append, List.cons_append] at F1
        go_upto_region 1 with fail
        obtain ⟨W1, hW1⟩ : ∃ W1, ((w.alloc (.cells #[.slice a sh.length c, .slice b st.length d, .int .i64 off] 25)).alloc (.cells #[.slice none 0 0, .slice none 0 0, .int .i64 0] 25)) = W1 := ⟨_, rfl⟩
        rw [hW1] at F1 ⊢
        clear hW1
        have c0_0 := F1.out.c 0 0 rfl rfl
        have c0_1 := F1.out.c 0 1 rfl rfl
        have c0_2 := F1.out.c 0 2 rfl rfl
        have c1_0 := F1.out.c 1 0 rfl rfl
        have c1_1 := F1.out.c 1 1 rfl rfl
        have c1_2 := F1.out.c 1 2 rfl rfl
        go_wp2_with (go_at_call 49; refine (hgv _ (F1.out.lw 0 rfl) (F1.out.lw 1 rfl)).mono ?_; rintro e w2 ⟨rfl, hb⟩; have F2 := Lib.hid (F1.out.next hb); clear hb F1 c0_0 c0_1 c0_2 c1_0 c1_1 c1_2; have d0_0 := F2.out.c 0 0 rfl rfl; have d0_1 := F2.out.c 0 1 rfl rfl; have d0_2 := F2.out.c 0 2 rfl rfl; have d1_0 := F2.out.c 1 0 rfl rfl; have d1_1 := F2.out.c 1 1 rfl rfl; have d1_2 := F2.out.c 1 2 rfl rfl; have df1_0 := F2.out.f 1 0 rfl rfl; have df1_1 := F2.out.f 1 1 rfl rfl; have df1_2 := F2.out.f 1 2 rfl rfl)
        (try simp only [Exit.noGoto, Exit.inBlock, Exit.then])
        have FZ := F2.out.set 1 rfl (by simp) [.slice none 0 0, .slice none 0 0, .int .i64 0] rfl
        simp only [setL, Nat.reduceAdd, List.set_cons_zero, List.set_cons_succ] at FZ
        have z0 := FZ.c 1 0 rfl rfl
        have z1 := FZ.c 1 1 rfl rfl
        have z2 := FZ.c 1 2 rfl rfl
        refine bodyPost_ret (v := .tuple #[.agg #[.slice none 0 0, .slice none 0 0, .int .i64 0], .int .i64 2]) ?_ rfl (retVE_none FZ)
        rw [results_ctW rfl]
        go_simp
      by_cases s2 : f < 0
      · skip
        clear h h2 hs
        go_enter Try.func29, Try.ntmps29
        have F1 := Lib.hid (((Fr.start (w := w) (I := [(.i64, a, sh), (.i64, b, st)]) (by intro z hz; simp at hz; rcases hz with rfl | rfl; exact H0.out; exact H1.out)).box1 (b := w.heap.size) (by simp) [.slice a sh.length c, .slice b st.length d, .int .i64 off] 25).box1 (b := w.heap.size + 1) (by simp) [.slice none 0 0, .slice none 0 0, .int .i64 0] 25)
        simp only [List.nil_append, List.cons_append] at F1
        go_upto_region 1 with fail
        obtain ⟨W1, hW1⟩ : ∃ W1, ((w.alloc (.cells #[.slice a sh.length c, .slice b st.length d, .int .i64 off] 25)).alloc (.cells #[.slice none 0 0, .slice none 0 0, .int .i64 0] 25)) = W1 := ⟨_, rfl⟩
        rw [hW1] at F1 ⊢
        clear hW1
        have c0_0 := F1.out.c 0 0 rfl rfl
        have c0_1 := F1.out.c 0 1 rfl rfl
        have c0_2 := F1.out.c 0 2 rfl rfl
        have c1_0 := F1.out.c 1 0 rfl rfl
        have c1_1 := F1.out.c 1 1 rfl rfl
        have c1_2 := F1.out.c 1 2 rfl rfl
        go_wp2_with (go_at_call 49; refine (hgv _ (F1.out.lw 0 rfl) (F1.out.lw 1 rfl)).mono ?_; rintro e w2 ⟨rfl, hb⟩; have F2 := Lib.hid (F1.out.next hb); clear hb F1 c0_0 c0_1 c0_2 c1_0 c1_1 c1_2; have d0_0 := F2.out.c 0 0 rfl rfl; have d0_1 := F2.out.c 0 1 rfl rfl; have d0_2 := F2.out.c 0 2 rfl rfl; have d1_0 := F2.out.c 1 0 rfl rfl; have d1_1 := F2.out.c 1 1 rfl rfl; have d1_2 := F2.out.c 1 2 rfl rfl; have df1_0 := F2.out.f 1 0 rfl rfl; have df1_1 := F2.out.f 1 1 rfl rfl; have df1_2 := F2.out.f 1 2 rfl rfl)
        (try simp only [Exit.noGoto, Exit.inBlock, Exit.then])
        have FZ := F2.out.set 1 rfl (by simp) [.slice none 0 0, .slice none 0 0, .int .i64 0] rfl
        simp only [setL, Nat.reduceAdd, List.set_cons_zero, List.set_cons_succ] at FZ
        have z0 := FZ.c 1 0 rfl rfl
        have z1 := FZ.c 1 1 rfl rfl
        have z2 := FZ.c 1 2 rfl rfl
        refine bodyPost_ret (v := .tuple #[.agg #[.slice none 0 0, .slice none 0 0, .int .i64 0], .int .i64 2]) ?_ rfl (retVE_none FZ)
        rw [results_ctW rfl]
        go_simp
      by_cases s3 : t ≤ f
      · skip
        clear h h2 hs
        go_enter Try.func29, Try.ntmps29
        have F1 := Lib.hid (((Fr.start (w := w) (I := [(.i64, a, sh), (.i64, b, st)]) (by intro z hz; simp at hz; rcases hz with rfl | rfl; exact H0.out; exact H1.out)).box1 (b := w.heap.size) (by simp) [.slice a sh.length c, .slice b st.length d, .int .i64 off] 25).box1 (b := w.heap.size + 1) (by simp) [.slice none 0 0, .slice none 0 0, .int .i64 0] 25)
        simp only [List.nil_append, List.cons_append] at F1
        go_upto_region 1 with fail
        obtain ⟨W1, hW1⟩ : ∃ W1, ((w.alloc (.cells #[.slice a sh.length c, .slice b st.length d, .int .i64 off] 25)).alloc (.cells #[.slice none 0 0, .slice none 0 0, .int .i64 0] 25)) = W1 := ⟨_, rfl⟩
        rw [hW1] at F1 ⊢
        clear hW1
        have c0_0 := F1.out.c 0 0 rfl rfl
        have c0_1 := F1.out.c 0 1 rfl rfl
        have c0_2 := F1.out.c 0 2 rfl rfl
        have c1_0 := F1.out.c 1 0 rfl rfl
        have c1_1 := F1.out.c 1 1 rfl rfl
        have c1_2 := F1.out.c 1 2 rfl rfl
        go_wp2_with (go_at_call 49; refine (hgv _ (F1.out.lw 0 rfl) (F1.out.lw 1 rfl)).mono ?_; rintro e w2 ⟨rfl, hb⟩; have F2 := Lib.hid (F1.out.next hb); clear hb F1 c0_0 c0_1 c0_2 c1_0 c1_1 c1_2; have d0_0 := F2.out.c 0 0 rfl rfl; have d0_1 := F2.out.c 0 1 rfl rfl; have d0_2 := F2.out.c 0 2 rfl rfl; have d1_0 := F2.out.c 1 0 rfl rfl; have d1_1 := F2.out.c 1 1 rfl rfl; have d1_2 := F2.out.c 1 2 rfl rfl; have df1_0 := F2.out.f 1 0 rfl rfl; have df1_1 := F2.out.f 1 1 rfl rfl; have df1_2 := F2.out.f 1 2 rfl rfl)
        (try simp only [Exit.noGoto, Exit.inBlock, Exit.then])
        have FZ := F2.out.set 1 rfl (by simp) [.slice none 0 0, .slice none 0 0, .int .i64 0] rfl
        simp only [setL, Nat.reduceAdd, List.set_cons_zero, List.set_cons_succ] at FZ
        have z0 := FZ.c 1 0 rfl rfl
        have z1 := FZ.c 1 1 rfl rfl
        have z2 := FZ.c 1 2 rfl rfl
        refine bodyPost_ret (v := .tuple #[.agg #[.slice none 0 0, .slice none 0 0, .int .i64 0], .int .i64 2]) ?_ rfl (retVE_none FZ)
        rw [results_ctW rfl]
        go_simp
      have s4 : sh[m.toNat]?.getD 0 < t := by rcases hs with g | g | g | g | g <;> omega
      obtain ⟨m, rfl⟩ : ∃ k : Nat, m = k := ⟨m.toNat, by omega⟩
      rw [Int.toNat_natCast] at s4
      have hm : m < sh.length := by omega
      obtain ⟨ga, oa, haa, hal, hca⟩ := h.cell m hm
      obtain ⟨x, hx⟩ : ∃ x, sh[m]?.getD 0 = x := ⟨_, rfl⟩
      rw [hx] at hca s4
      subst haa
      clear h h2 hs hx
      have HCA := Lib.hid hca
      clear hca
      go_enter Try.func29, Try.ntmps29
      have F1 := Lib.hid (((Fr.start (w := w) (I := [(.i64, (some ⟨ga, oa, none⟩), sh), (.i64, b, st)]) (by intro z hz; simp at hz; rcases hz with rfl | rfl; exact H0.out; exact H1.out)).box1 (b := w.heap.size) (by simp) [.slice (some ⟨ga, oa, none⟩) sh.length c, .slice b st.length d, .int .i64 off] 25).box1 (b := w.heap.size + 1) (by simp) [.slice none 0 0, .slice none 0 0, .int .i64 0] 25)
      simp only [List.nil_append, List.cons_append] at F1
      go_upto_region 1 with fail
      obtain ⟨W1, hW1⟩ : ∃ W1, ((w.alloc (.cells #[.slice (some ⟨ga, oa, none⟩) sh.length c, .slice b st.length d, .int .i64 off] 25)).alloc (.cells #[.slice none 0 0, .slice none 0 0, .int .i64 0] 25)) = W1 := ⟨_, rfl⟩
      rw [hW1] at F1 ⊢
      clear hW1
      have c0_0 := F1.out.c 0 0 rfl rfl
      have c0_1 := F1.out.c 0 1 rfl rfl
      have c0_2 := F1.out.c 0 2 rfl rfl
      have c1_0 := F1.out.c 1 0 rfl rfl
      have c1_1 := F1.out.c 1 1 rfl rfl
      have c1_2 := F1.out.c 1 2 rfl rfl
      go_wp2_with (go_at_call 49; refine (hgv _ (F1.out.lw 0 rfl) (F1.out.lw 1 rfl)).mono ?_; rintro e w2 ⟨rfl, hb⟩; have F2 := Lib.hid (F1.out.next hb); clear hb F1 c0_0 c0_1 c0_2 c1_0 c1_1 c1_2; have d0_0 := F2.out.c 0 0 rfl rfl; have d0_1 := F2.out.c 0 1 rfl rfl; have d0_2 := F2.out.c 0 2 rfl rfl; have d1_0 := F2.out.c 1 0 rfl rfl; have d1_1 := F2.out.c 1 1 rfl rfl; have d1_2 := F2.out.c 1 2 rfl rfl; have df1_0 := F2.out.f 1 0 rfl rfl; have df1_1 := F2.out.f 1 1 rfl rfl; have df1_2 := F2.out.f 1 2 rfl rfl; have hcx := (F2.out.bel.cell (p := ⟨ga, oa + m, none⟩) hal).trans HCA.out)
      (try simp only [Exit.noGoto, Exit.inBlock, Exit.then])
      have FZ := F2.out.set 1 rfl (by simp) [.slice none 0 0, .slice none 0 0, .int .i64 0] rfl
      simp only [setL, Nat.reduceAdd, List.set_cons_zero, List.set_cons_succ] at FZ
      have z0 := FZ.c 1 0 rfl rfl
      have z1 := FZ.c 1 1 rfl rfl
      have z2 := FZ.c 1 2 rfl rfl
      refine bodyPost_ret (v := .tuple #[.agg #[.slice none 0 0, .slice none 0 0, .int .i64 0], .int .i64 2]) ?_ rfl (retVE_none FZ)
      rw [results_ctW rfl]
      go_simp
set_option maxRecDepth 100000 in
set_option maxHeartbeats 4000000 in
theorem vwiden_all (a b p : Option Addr) (c d cp : Nat) (sh st s : List Int) (off : Int) (w : World) (h : Ints .i64 w w.heap.size a sh) (h2 : Ints .i64 w w.heap.size b st) (h3 : Ints .i64 w w.heap.size p s) :
    Calls Try.prog 32 #[.agg #[.slice a sh.length c, .slice b st.length d, .int .i64 off], .slice p s.length cp] w (RetVE w (okL (wdZ sh st off s) s) (okL (wdZ sh st off s) (widL sh st s)) (okI (wdZ sh st off s) off) (wdZ sh st off s)) := by
  have hgv := fun W (h : Ints .i64 W W.heap.size a sh) (h2 : Ints .i64 W W.heap.size b st) => vgood_any a b c d W.heap.size sh st off 65536 W h h2 (Nat.le_refl _)
  have hgd := fun W (h : Ints .i64 W W.heap.size p s) => good_any p cp _ s W h
  have H0 := Lib.hid h
  have H1 := Lib.hid h2
  have H2 := Lib.hid h3
  cases hv : viewB sh st off 65536 with
  | false =>
    rw [show wdZ sh st off s = 1 by unfold wdZ; rw [hv]; rfl, okL_1, okL_1, okI_1]
    rw [hv] at hgv
    clear h h2 h3 hv
    go_enter Try.func32, Try.ntmps32
    have F1 := Lib.hid (((Fr.start (w := w) (I := [(.i64, a, sh), (.i64, b, st), (.i64, p, s)]) (by intro z hz; simp at hz; rcases hz with rfl | rfl | rfl; exact H0.out; exact H1.out; exact H2.out)).box1 (b := w.heap.size) (by simp) [.slice a sh.length c, .slice b st.length d, .int .i64 off] 25).box1 (b := w.heap.size + 1) (by simp) [.slice none 0 0, .slice none 0 0, .int .i64 0] 25)
    simp only [List.nil_append, List.cons_append] at F1
    go_upto_region 1 with fail
    obtain ⟨W1, hW1⟩ : ∃ W1, ((w.alloc (.cells #[.slice a sh.length c, .slice b st.length d, .int .i64 off] 25)).alloc (.cells #[.slice none 0 0, .slice none 0 0, .int .i64 0] 25)) = W1 := ⟨_, rfl⟩
    rw [hW1] at F1 ⊢
    clear hW1
    have c0_0 := F1.out.c 0 0 rfl rfl
    have c0_1 := F1.out.c 0 1 rfl rfl
    have c0_2 := F1.out.c 0 2 rfl rfl
    have c1_0 := F1.out.c 1 0 rfl rfl
    have c1_1 := F1.out.c 1 1 rfl rfl
    have c1_2 := F1.out.c 1 2 rfl rfl
    go_wp2_with (go_at_call 49; refine (hgv _ (F1.out.lw 0 rfl) (F1.out.lw 1 rfl)).mono ?_; rintro e w2 ⟨rfl, hb⟩; have F2 := Lib.hid (F1.out.next hb); clear hb F1 c0_0 c0_1 c0_2 c1_0 c1_1 c1_2; have d0_0 := F2.out.c 0 0 rfl rfl; have d0_1 := F2.out.c 0 1 rfl rfl; have d0_2 := F2.out.c 0 2 rfl rfl; have d1_0 := F2.out.c 1 0 rfl rfl; have d1_1 := F2.out.c 1 1 rfl rfl; have d1_2 := F2.out.c 1 2 rfl rfl; have df1_0 := F2.out.f 1 0 rfl rfl; have df1_1 := F2.out.f 1 1 rfl rfl; have df1_2 := F2.out.f 1 2 rfl rfl)
    (try simp only [Exit.noGoto, Exit.inBlock, Exit.then])
    have FZ := F2.out.set 1 rfl (by simp) [.slice none 0 0, .slice none 0 0, .int .i64 0] rfl
    simp only [setL, Nat.reduceAdd, List.set_cons_zero, List.set_cons_succ] at FZ
    have z0 := FZ.c 1 0 rfl rfl
    have z1 := FZ.c 1 1 rfl rfl
    have z2 := FZ.c 1 2 rfl rfl
    refine bodyPost_ret (v := .tuple #[.agg #[.slice none 0 0, .slice none 0 0, .int .i64 0], .int .i64 1]) ?_ rfl (retVE_none FZ)
    rw [results_ctW rfl]
    go_simp
  | true =>
    cases hg : goodB s with
    | false =>
      rw [show wdZ sh st off s = 1 by unfold wdZ; rw [hv, hg]; rfl, okL_1, okL_1, okI_1]
      rw [hv] at hgv
      rw [hg] at hgd
      clear h h2 h3 hv hg
      go_enter Try.func32, Try.ntmps32
      have F1 := Lib.hid (((Fr.start (w := w) (I := [(.i64, a, sh), (.i64, b, st), (.i64, p, s)]) (by intro z hz; simp at hz; rcases hz with rfl | rfl | rfl; exact H0.out; exact H1.out; exact H2.out)).box1 (b := w.heap.size) (by simp) [.slice a sh.length c, .slice b st.length d, .int .i64 off] 25).box1 (b := w.heap.size + 1) (by simp) [.slice none 0 0, .slice none 0 0, .int .i64 0] 25)
      simp only [List.nil_append, List.cons_append] at F1
      go_upto_region 1 with fail
      obtain ⟨W1, hW1⟩ : ∃ W1, ((w.alloc (.cells #[.slice a sh.length c, .slice b st.length d, .int .i64 off] 25)).alloc (.cells #[.slice none 0 0, .slice none 0 0, .int .i64 0] 25)) = W1 := ⟨_, rfl⟩
      rw [hW1] at F1 ⊢
      clear hW1
      have c0_0 := F1.out.c 0 0 rfl rfl
      have c0_1 := F1.out.c 0 1 rfl rfl
      have c0_2 := F1.out.c 0 2 rfl rfl
      have c1_0 := F1.out.c 1 0 rfl rfl
      have c1_1 := F1.out.c 1 1 rfl rfl
      have c1_2 := F1.out.c 1 2 rfl rfl
      go_wp2_with (first | (go_at_call 49; refine (hgv _ (F1.out.lw 0 rfl) (F1.out.lw 1 rfl)).mono ?_; rintro e w2 ⟨rfl, hb⟩; have F2 := Lib.hid (F1.out.next hb); clear hb F1 c0_0 c0_1 c0_2 c1_0 c1_1 c1_2; have d0_0 := F2.out.c 0 0 rfl rfl; have d0_1 := F2.out.c 0 1 rfl rfl; have d0_2 := F2.out.c 0 2 rfl rfl; have d1_0 := F2.out.c 1 0 rfl rfl; have d1_1 := F2.out.c 1 1 rfl rfl; have d1_2 := F2.out.c 1 2 rfl rfl; have df1_0 := F2.out.f 1 0 rfl rfl; have df1_1 := F2.out.f 1 1 rfl rfl; have df1_2 := F2.out.f 1 2 rfl rfl) | (go_at_call 54; refine (hgd _ (F2.out.lw 2 rfl)).mono ?_; rintro e w' ⟨rfl, rfl⟩; skip) | fail)
      (try simp only [Exit.noGoto, Exit.inBlock, Exit.then])
      have FZ := F2.out.set 1 rfl (by simp) [.slice none 0 0, .slice none 0 0, .int .i64 0] rfl
      simp only [setL, Nat.reduceAdd, List.set_cons_zero, List.set_cons_succ] at FZ
      have z0 := FZ.c 1 0 rfl rfl
      have z1 := FZ.c 1 1 rfl rfl
      have z2 := FZ.c 1 2 rfl rfl
      refine bodyPost_ret (v := .tuple #[.agg #[.slice none 0 0, .slice none 0 0, .int .i64 0], .int .i64 1]) ?_ rfl (retVE_none FZ)
      rw [results_ctW rfl]
      go_simp
    | true =>
      cases hgo : goesB sh s with
      | true =>
        rw [show wdZ sh st off s = 0 by unfold wdZ; rw [hv, hg, if_pos hgo]; rfl, okL_0, okL_0, okI_0]
        exact vwiden_good a b p c d cp sh st s off w h h2 h3 hv hg hgo
      | false =>
        rw [show wdZ sh st off s = 2 by unfold wdZ; rw [hv, hg, hgo]; rfl, okL_2, okL_2, okI_2]
        have hD := goodB_dims (viewB_iff.1 hv).1
        have hD2 := goodB_dims hg
        have HBO := Lib.hid (fun W (h : Ints .i64 W W.heap.size a sh) (h2 : Ints .i64 W W.heap.size p s) => both_any a p c cp sh s W h h2 (viewB_iff.1 hv).1 hg)
        have HSW := Lib.hid (wf_dims (spreadR_mem hD hD2))
        rw [hv] at hgv
        rw [hg] at hgd
        unfold RetSpread at HBO
        clear h h2 h3 hv hg hD hD2
        obtain ⟨E, hE⟩ : ∃ x, spreadE sh s = x := ⟨_, rfl⟩
        obtain ⟨R, hR⟩ : ∃ x, spreadR sh s = x := ⟨_, rfl⟩
        unfold goesB at hgo
        rw [hE, hR] at hgo
        rw [hR] at HSW
        rw [hE, hR] at HBO
        clear hE hR
        by_cases hE : E = 0
        · skip
          have hR : decide (R = s) = false := by rw [hE] at hgo; simpa using hgo
          subst hE
          clear hgo
          go_enter Try.func32, Try.ntmps32
          have F1 := Lib.hid (((Fr.start (w := w) (I := [(.i64, a, sh), (.i64, b, st), (.i64, p, s)]) (by intro z hz; simp at hz; rcases hz with rfl | rfl | rfl; exact H0.out; exact H1.out; exact H2.out)).box1 (b := w.heap.size) (by simp) [.slice a sh.length c, .slice b st.length d, .int .i64 off] 25).box1 (b := w.heap.size + 1) (by simp) [.slice none 0 0, .slice none 0 0, .int .i64 0] 25)
          simp only [List.nil_append, List.cons_append] at F1
          go_upto_region 1 with fail
          obtain ⟨W1, hW1⟩ : ∃ W1, ((w.alloc (.cells #[.slice a sh.length c, .slice b st.length d, .int .i64 off] 25)).alloc (.cells #[.slice none 0 0, .slice none 0 0, .int .i64 0] 25)) = W1 := ⟨_, rfl⟩
          rw [hW1] at F1 ⊢
          clear hW1
          have c0_0 := F1.out.c 0 0 rfl rfl
          have c0_1 := F1.out.c 0 1 rfl rfl
          have c0_2 := F1.out.c 0 2 rfl rfl
          have c1_0 := F1.out.c 1 0 rfl rfl
          have c1_1 := F1.out.c 1 1 rfl rfl
          have c1_2 := F1.out.c 1 2 rfl rfl
          go_wp2_with (first | (go_at_call 49; refine (hgv _ (F1.out.lw 0 rfl) (F1.out.lw 1 rfl)).mono ?_; rintro e w2 ⟨rfl, hb⟩; have F2 := Lib.hid (F1.out.next hb); clear hb F1 c0_0 c0_1 c0_2 c1_0 c1_1 c1_2; have d0_0 := F2.out.c 0 0 rfl rfl; have d0_1 := F2.out.c 0 1 rfl rfl; have d0_2 := F2.out.c 0 2 rfl rfl; have d1_0 := F2.out.c 1 0 rfl rfl; have d1_1 := F2.out.c 1 1 rfl rfl; have d1_2 := F2.out.c 1 2 rfl rfl; have df1_0 := F2.out.f 1 0 rfl rfl; have df1_1 := F2.out.f 1 1 rfl rfl; have df1_2 := F2.out.f 1 2 rfl rfl) | (go_at_call 54; refine (hgd _ (F2.out.lw 2 rfl)).mono ?_; rintro e w' ⟨rfl, rfl⟩; skip) | (go_at_call 60; refine (HBO.out _ (F2.out.lw 0 rfl) (F2.out.lw 2 rfl)).mono ?_; rintro e w3 ⟨v, rfl, hown, hb⟩; obtain ⟨a3, c3, rfl, _⟩ := own_shape hown; have F3 := Lib.hid (F2.out.addO hb hown); simp only [List.nil_append, List.cons_append] at F3; clear hown hb F2 d0_0 d0_1 d0_2 d1_0 d1_1 d1_2 df1_0 df1_1 df1_2; have e1_0 := F3.out.c 1 0 rfl rfl; have e1_1 := F3.out.c 1 1 rfl rfl; have e1_2 := F3.out.c 1 2 rfl rfl; have ef1_0 := F3.out.f 1 0 rfl rfl; have ef1_1 := F3.out.f 1 1 rfl rfl; have ef1_2 := F3.out.f 1 2 rfl rfl) | (go_at_call 55; refine (slicesEqual_any a3 p c3 cp _ R s _ (F3.out.li 0 (k := .i64) (xs := R) rfl HSW.out) (F3.out.lw 2 rfl)).mono ?_; rintro e w' ⟨rfl, q4, rfl⟩; rw [hR]; have F4 := Lib.hid (F3.out.drewN q4); clear F3 e1_0 e1_1 e1_2 ef1_0 ef1_1 ef1_2; have g1_0 := F4.out.c 1 0 rfl rfl; have g1_1 := F4.out.c 1 1 rfl rfl; have g1_2 := F4.out.c 1 2 rfl rfl; have gf1_0 := F4.out.f 1 0 rfl rfl; have gf1_1 := F4.out.f 1 1 rfl rfl; have gf1_2 := F4.out.f 1 2 rfl rfl) | fail)
          (try simp only [Exit.noGoto, Exit.inBlock, Exit.then])
          have FZ := F4.out.set 1 rfl (by simp) [.slice none 0 0, .slice none 0 0, .int .i64 0] rfl
          simp only [setL, Nat.reduceAdd, List.set_cons_zero, List.set_cons_succ] at FZ
          have z0 := FZ.c 1 0 rfl rfl
          have z1 := FZ.c 1 1 rfl rfl
          have z2 := FZ.c 1 2 rfl rfl
          refine bodyPost_ret (v := .tuple #[.agg #[.slice none 0 0, .slice none 0 0, .int .i64 0], .int .i64 2]) ?_ rfl (retVE_none (FZ.less (.refl _) (.refl _) (List.nil_sublist _) (.refl _)))
          rw [results_ctW rfl]
          go_simp
        · skip
          clear hgo
          have hE2 : (E != 0) = true := by simpa using hE
          go_enter Try.func32, Try.ntmps32
          have F1 := Lib.hid (((Fr.start (w := w) (I := [(.i64, a, sh), (.i64, b, st), (.i64, p, s)]) (by intro z hz; simp at hz; rcases hz with rfl | rfl | rfl; exact H0.out; exact H1.out; exact H2.out)).box1 (b := w.heap.size) (by simp) [.slice a sh.length c, .slice b st.length d, .int .i64 off] 25).box1 (b := w.heap.size + 1) (by simp) [.slice none 0 0, .slice none 0 0, .int .i64 0] 25)
          simp only [List.nil_append, List.cons_append] at F1
          go_upto_region 1 with fail
          obtain ⟨W1, hW1⟩ : ∃ W1, ((w.alloc (.cells #[.slice a sh.length c, .slice b st.length d, .int .i64 off] 25)).alloc (.cells #[.slice none 0 0, .slice none 0 0, .int .i64 0] 25)) = W1 := ⟨_, rfl⟩
          rw [hW1] at F1 ⊢
          clear hW1
          have c0_0 := F1.out.c 0 0 rfl rfl
          have c0_1 := F1.out.c 0 1 rfl rfl
          have c0_2 := F1.out.c 0 2 rfl rfl
          have c1_0 := F1.out.c 1 0 rfl rfl
          have c1_1 := F1.out.c 1 1 rfl rfl
          have c1_2 := F1.out.c 1 2 rfl rfl
          go_wp2_with (first | (go_at_call 49; refine (hgv _ (F1.out.lw 0 rfl) (F1.out.lw 1 rfl)).mono ?_; rintro e w2 ⟨rfl, hb⟩; have F2 := Lib.hid (F1.out.next hb); clear hb F1 c0_0 c0_1 c0_2 c1_0 c1_1 c1_2; have d0_0 := F2.out.c 0 0 rfl rfl; have d0_1 := F2.out.c 0 1 rfl rfl; have d0_2 := F2.out.c 0 2 rfl rfl; have d1_0 := F2.out.c 1 0 rfl rfl; have d1_1 := F2.out.c 1 1 rfl rfl; have d1_2 := F2.out.c 1 2 rfl rfl; have df1_0 := F2.out.f 1 0 rfl rfl; have df1_1 := F2.out.f 1 1 rfl rfl; have df1_2 := F2.out.f 1 2 rfl rfl) | (go_at_call 54; refine (hgd _ (F2.out.lw 2 rfl)).mono ?_; rintro e w' ⟨rfl, rfl⟩; skip) | (go_at_call 60; refine (HBO.out _ (F2.out.lw 0 rfl) (F2.out.lw 2 rfl)).mono ?_; rintro e w3 ⟨v, rfl, hown, hb⟩; obtain ⟨a3, c3, rfl, _⟩ := own_shape hown; have F3 := Lib.hid (F2.out.addO hb hown); simp only [List.nil_append, List.cons_append] at F3; clear hown hb F2 d0_0 d0_1 d0_2 d1_0 d1_1 d1_2 df1_0 df1_1 df1_2; have e1_0 := F3.out.c 1 0 rfl rfl; have e1_1 := F3.out.c 1 1 rfl rfl; have e1_2 := F3.out.c 1 2 rfl rfl; have ef1_0 := F3.out.f 1 0 rfl rfl; have ef1_1 := F3.out.f 1 1 rfl rfl; have ef1_2 := F3.out.f 1 2 rfl rfl) | fail)
          (try simp only [Exit.noGoto, Exit.inBlock, Exit.then])
          have FZ := F3.out.set 1 rfl (by simp) [.slice none 0 0, .slice none 0 0, .int .i64 0] rfl
          simp only [setL, Nat.reduceAdd, List.set_cons_zero, List.set_cons_succ] at FZ
          have z0 := FZ.c 1 0 rfl rfl
          have z1 := FZ.c 1 1 rfl rfl
          have z2 := FZ.c 1 2 rfl rfl
          refine bodyPost_ret (v := .tuple #[.agg #[.slice none 0 0, .slice none 0 0, .int .i64 0], .int .i64 2]) ?_ rfl (retVE_none (FZ.less (.refl _) (.refl _) (List.nil_sublist _) (.refl _)))
          rw [results_ctW rfl]
          go_simp
set_option maxRecDepth 100000 in
set_option maxHeartbeats 4000000 in
theorem rplain_any (a b : Option Addr) (c d : Nat) (sh st : List Int) (off : Int) (w : World) (h : Ints .i64 w w.heap.size a sh) (h2 : Ints .i64 w w.heap.size b st) (hg : goodB sh = true) :
    Calls Try.prog 41 #[.agg #[.slice a sh.length c, .slice b st.length d, .int .i64 off]] w (fun e w' => e = .returned (.bool (plB sh st off)) ∧ Below w.heap.size w w') := by
  have H0 := Lib.hid h
  have H1 := Lib.hid h2
  have HG := Lib.hid hg
  have h4 := (goodB_iff.1 hg).1
  clear h h2 hg
  by_cases h0 : off = 0
  · skip
    rw [show plB sh st off = decide (st = strI sh) by unfold plB; simp [h0]]
    subst h0
    obtain ⟨SI, hSI⟩ : ∃ x, strI sh = x := ⟨_, rfl⟩
    have HSL := Lib.hid (strI_length sh)
    have hsw : ∀ x ∈ SI, (Lit.int .i64 x).wf = true := by rw [← hSI]; exact wf_dims fun x hx => by have := strI_mem (goodB_dims HG.out) (goodB_prod HG.out).2 x hx; omega
    have HSW := Lib.hid hsw
    have hst := fun W (h : Ints .i64 W W.heap.size a sh) => rstrides_any a c sh W h HG.out
    rw [hSI] at hst HSL ⊢
    have HST := Lib.hid hst
    clear hsw hst hSI
    go_enter Try.func41, Try.ntmps41
    have F1 := Lib.hid ((Fr.start (w := w) (I := [(.i64, a, sh), (.i64, b, st)]) (by intro z hz; simp at hz; rcases hz with rfl | rfl; exact H0.out; exact H1.out)).box1 (b := w.heap.size) (by simp) [.slice a sh.length c, .slice b st.length d, .int .i64 0] 25)
    simp only [List.nil_append, List.cons_append] at F1
    go_upto_region 1 with fail
    obtain ⟨W1, hW1⟩ : ∃ W1, (w.alloc (.cells #[.slice a sh.length c, .slice b st.length d, .int .i64 0] 25)) = W1 := ⟨_, rfl⟩
    rw [hW1] at F1 ⊢
    clear hW1
    refine wp_region_parts2 (w := W1) 11 1 none [] [(fun u _ => u = .pointer (some ⟨w.heap.size, 2, none⟩)), (fun u _ => u = .int .i64 0), (fun u _ => u = .bool true), (fun u _ => u = .bool true), (fun u _ => u = .pointer (some ⟨w.heap.size, 1, none⟩)), (fun u _ => u = .slice b st.length d), (fun u _ => u = .pointer (some ⟨w.heap.size, 0, none⟩)), (fun u _ => u = .slice a sh.length c), ((IsRow W1.heap.size 3 SI.length (SI.map (Value.int .i64)))), (fun u _ => u = .bool (decide (st = SI))), (fun u _ => u = .bool (decide (st = SI)))] [some 3, some 4, some 5, some 6, some 7, some 8, some 9, some 10, some 11, some 12, some 13, some 2] #[true, true, true, true, true, true, true, true, true, true, true, false] #[true, true, true, true, true, true, true, true, true, true, true, false] (by kernel_rfl) rfl (by kernel_rfl) (by kernel_rfl) rfl (by kernel_rfl) (by kernel_rfl) (.cons (carries_eq _) (.cons (carries_eq _) (.cons (carries_eq _) (.cons (carries_eq _) (.cons (carries_eq _) (.cons (carries_eq _) (.cons (carries_eq _) (.cons (carries_eq _) (.cons (isRow_carries _ _ _ _) (.cons (carries_eq _) (.cons (carries_eq _) .nil))))))))))) (fun vs b hvl hvb => ?_)
    obtain ⟨x0, x1, x2, x3, x4, x5, x6, x7, x8, x9, x10, x11, rfl⟩ : ∃ x0 x1 x2 x3 x4 x5 x6 x7 x8 x9 x10 x11, vs = [x0, x1, x2, x3, x4, x5, x6, x7, x8, x9, x10, x11] := lst12 hvl
    clear hvl
    simp only [putAll, Act.put, List.setIfInBounds_toArray, List.set_cons_zero, List.set_cons_succ] at hvb
    subst hvb
    refine ⟨(.snoc (.snoc (.snoc (.snoc (.snoc (.snoc (.snoc (.snoc (.snoc (.snoc (.snoc .zero (PartOb.intro (d := (some 3)) (r := fun u _ => u = .pointer (some ⟨w.heap.size, 2, none⟩)) rfl rfl rfl rfl ?po1x0)) (PartOb.intro (d := (some 4)) (r := fun u _ => u = .int .i64 0) rfl rfl rfl rfl ?po1x1)) (PartOb.intro (d := (some 5)) (r := fun u _ => u = .bool true) rfl rfl rfl rfl ?po1x2)) (PartOb.intro (d := (some 6)) (r := fun u _ => u = .bool true) rfl rfl rfl rfl ?po1x3)) (PartOb.intro (d := (some 7)) (r := fun u _ => u = .pointer (some ⟨w.heap.size, 1, none⟩)) rfl rfl rfl rfl ?po1x4)) (PartOb.intro (d := (some 8)) (r := fun u _ => u = .slice b st.length d) rfl rfl rfl rfl ?po1x5)) (PartOb.intro (d := (some 9)) (r := fun u _ => u = .pointer (some ⟨w.heap.size, 0, none⟩)) rfl rfl rfl rfl ?po1x6)) (PartOb.intro (d := (some 10)) (r := fun u _ => u = .slice a sh.length c) rfl rfl rfl rfl ?po1x7)) (PartOb.intro (d := (some 11)) (r := (IsRow W1.heap.size 3 SI.length (SI.map (Value.int .i64)))) rfl rfl rfl rfl ?po1x8)) (PartOb.intro (d := (some 12)) (r := fun u _ => u = .bool (decide (st = SI))) rfl rfl rfl rfl ?po1x9)) (PartOb.intro (d := (some 13)) (r := fun u _ => u = .bool (decide (st = SI))) rfl rfl rfl rfl ?po1x10)), ?pend1, ?pfl1⟩
    case po1x0 =>
      intro w1 hb1 hd KK hK
      clear hd
      simp only [Act.put, List.setIfInBounds_toArray, List.set_cons_zero, List.set_cons_succ] at hK
      go_simp
      first | exact hK.out _ _ (Below.refl _ _) rfl | (have hk := hK.out _ _ (Below.refl _ _) rfl; revert hk; go_simp)
    case po1x1 =>
      intro w1 hb1 hd KK hK
      have d0 : x0 = .pointer (some ⟨w.heap.size, 2, none⟩) := hd 0 (by kernel_rfl)
      clear hd
      subst d0
      have hF := F1.out.next hb1
      have k0 := hF.c 0 0 rfl rfl
      have k1 := hF.c 0 1 rfl rfl
      have k2 := hF.c 0 2 rfl rfl
      simp only [Act.put, List.setIfInBounds_toArray, List.set_cons_zero, List.set_cons_succ] at hK
      go_simp
      first | exact hK.out _ _ (Below.refl _ _) rfl | (have hk := hK.out _ _ (Below.refl _ _) rfl; revert hk; go_simp)
    case po1x2 =>
      intro w1 hb1 hd KK hK
      have d1 : x1 = .int .i64 0 := hd 1 (by kernel_rfl)
      clear hd
      subst d1
      simp only [Act.put, List.setIfInBounds_toArray, List.set_cons_zero, List.set_cons_succ] at hK
      go_simp
      first | exact hK.out _ _ (Below.refl _ _) rfl | (have hk := hK.out _ _ (Below.refl _ _) rfl; revert hk; go_simp)
    case po1x3 =>
      intro w1 hb1 hd KK hK
      have d2 : x2 = .bool true := hd 2 (by kernel_rfl)
      clear hd
      subst d2
      simp only [Act.put, List.setIfInBounds_toArray, List.set_cons_zero, List.set_cons_succ] at hK
      go_simp
      first | exact hK.out _ _ (Below.refl _ _) rfl | (have hk := hK.out _ _ (Below.refl _ _) rfl; revert hk; go_simp)
    case po1x4 =>
      intro w1 hb1 hd KK hK
      have d3 : x3 = .bool true := hd 3 (by kernel_rfl)
      clear hd
      subst d3
      simp only [Act.put, List.setIfInBounds_toArray, List.set_cons_zero, List.set_cons_succ] at hK
      go_simp
      first | exact hK.out _ _ (Below.refl _ _) rfl | (have hk := hK.out _ _ (Below.refl _ _) rfl; revert hk; go_simp)
    case po1x5 =>
      intro w1 hb1 hd KK hK
      have d3 : x3 = .bool true := hd 3 (by kernel_rfl)
      have d4 : x4 = .pointer (some ⟨w.heap.size, 1, none⟩) := hd 4 (by kernel_rfl)
      clear hd
      subst d3
      subst d4
      have hF := F1.out.next hb1
      have k0 := hF.c 0 0 rfl rfl
      have k1 := hF.c 0 1 rfl rfl
      have k2 := hF.c 0 2 rfl rfl
      simp only [Act.put, List.setIfInBounds_toArray, List.set_cons_zero, List.set_cons_succ] at hK
      go_simp
      first | exact hK.out _ _ (Below.refl _ _) rfl | (have hk := hK.out _ _ (Below.refl _ _) rfl; revert hk; go_simp)
    case po1x6 =>
      intro w1 hb1 hd KK hK
      have d3 : x3 = .bool true := hd 3 (by kernel_rfl)
      clear hd
      subst d3
      simp only [Act.put, List.setIfInBounds_toArray, List.set_cons_zero, List.set_cons_succ] at hK
      go_simp
      first | exact hK.out _ _ (Below.refl _ _) rfl | (have hk := hK.out _ _ (Below.refl _ _) rfl; revert hk; go_simp)
    case po1x7 =>
      intro w1 hb1 hd KK hK
      have d3 : x3 = .bool true := hd 3 (by kernel_rfl)
      have d6 : x6 = .pointer (some ⟨w.heap.size, 0, none⟩) := hd 6 (by kernel_rfl)
      clear hd
      subst d3
      subst d6
      have hF := F1.out.next hb1
      have k0 := hF.c 0 0 rfl rfl
      have k1 := hF.c 0 1 rfl rfl
      have k2 := hF.c 0 2 rfl rfl
      simp only [Act.put, List.setIfInBounds_toArray, List.set_cons_zero, List.set_cons_succ] at hK
      go_simp
      first | exact hK.out _ _ (Below.refl _ _) rfl | (have hk := hK.out _ _ (Below.refl _ _) rfl; revert hk; go_simp)
    case po1x8 =>
      intro w1 hb1 hd KK hK
      have d3 : x3 = .bool true := hd 3 (by kernel_rfl)
      have d7 : x7 = .slice a sh.length c := hd 7 (by kernel_rfl)
      clear hd
      subst d3
      subst d7
      simp only [Act.put, List.setIfInBounds_toArray, List.set_cons_zero, List.set_cons_succ] at hK
      go_simp
      go_at_call 59
      refine (HST.out w1 ((F1.out.next hb1).lw 0 rfl)).mono ?_
      rintro e w2 ⟨v, rfl, hown, hb⟩
      obtain ⟨a8, c8, rfl, _⟩ := own_shape hown
      (try go_wp2_with fail)
      first | exact hK.out _ _ hb ⟨a8, c8, rfl, own_mono hown hb1.size⟩ | (have hk := hK.out _ _ hb ⟨a8, c8, rfl, own_mono hown hb1.size⟩; revert hk; go_simp)
    case po1x9 =>
      intro w1 hb1 hd KK hK
      have d3 : x3 = .bool true := hd 3 (by kernel_rfl)
      have d5 : x5 = .slice b st.length d := hd 5 (by kernel_rfl)
      have d8 : (IsRow W1.heap.size 3 SI.length (SI.map (Value.int .i64))) x8 w1 := hd 8 (by kernel_rfl)
      clear hd
      subst d3
      subst d5
      obtain ⟨a8, c8, rfl, hO8⟩ := d8
      obtain ⟨a9, c9, he9, hi9⟩ := own_ints hO8 HSW.out
      simp only [Value.slice.injEq] at he9
      obtain ⟨rfl, _, rfl⟩ := he9
      simp only [Act.put, List.setIfInBounds_toArray, List.set_cons_zero, List.set_cons_succ] at hK
      go_simp
      go_at_call 12
      refine (eqNumbers_any b a8 d c8 _ st SI w1 ((F1.out.next hb1).lw 1 rfl) hi9).mono ?_
      rintro e w2 ⟨rfl, q, rfl⟩
      (try go_wp2_with fail)
      first | exact hK.out _ _ (below_drewN (Below.refl _ _) _) rfl | (have hk := hK.out _ _ (below_drewN (Below.refl _ _) _) rfl; revert hk; go_simp)
    case po1x10 =>
      intro w1 hb1 hd KK hK
      have d3 : x3 = .bool true := hd 3 (by kernel_rfl)
      have d9 : x9 = .bool (decide (st = SI)) := hd 9 (by kernel_rfl)
      clear hd
      subst d3
      subst d9
      simp only [Act.put, List.setIfInBounds_toArray, List.set_cons_zero, List.set_cons_succ] at hK
      go_simp
      first | exact hK.out _ _ (Below.refl _ _) rfl | (have hk := hK.out _ _ (Below.refl _ _) rfl; revert hk; go_simp)
    case pfl1 => (intro f hf; cases hf)
    case pend1 =>
    intro w1 hb1 hR hD
    have d0 : x0 = .pointer (some ⟨w.heap.size, 2, none⟩) := hR 0 (by decide)
    have d1 : x1 = .int .i64 0 := hR 1 (by decide)
    have d2 : x2 = .bool true := hR 2 (by decide)
    have d3 : x3 = .bool true := hR 3 (by decide)
    have d4 : x4 = .pointer (some ⟨w.heap.size, 1, none⟩) := hR 4 (by decide)
    have d5 : x5 = .slice b st.length d := hR 5 (by decide)
    have d6 : x6 = .pointer (some ⟨w.heap.size, 0, none⟩) := hR 6 (by decide)
    have d7 : x7 = .slice a sh.length c := hR 7 (by decide)
    have d8 : (IsRow W1.heap.size 3 SI.length (SI.map (Value.int .i64))) x8 w1 := hR 8 (by decide)
    have d9 : x9 = .bool (decide (st = SI)) := hR 9 (by decide)
    have d10 : x10 = .bool (decide (st = SI)) := hR 10 (by decide)
    clear hR hD
    subst d0
    subst d1
    subst d2
    subst d3
    subst d4
    subst d5
    subst d6
    subst d7
    obtain ⟨a8, c8, rfl, hO8⟩ := d8
    subst d9
    subst d10
    refine wpAny_ready (rs := [11]) (by kernel_rfl) (by simp) (AllReady.cons rfl (fun KK hK => ?_) AllReady.nil)
    go_simp
    refine hK _ _ ?_
    clear hK KK
    try simp only [putAll, Act.put, List.setIfInBounds_toArray, List.set_cons_zero, List.set_cons_succ]
    refine wpAny_done (by kernel_rfl) ?_ _
    have F2 := F1.out.next hb1
    clear F1
    go_wp2
    go_ret
    exact ⟨rfl, F2.bel⟩
  · skip
    rw [show plB sh st off = false by unfold plB; simp [h0]]
    have h0b : decide (off = 0) = false := decide_eq_false h0
    go_enter Try.func41, Try.ntmps41
    have F1 := Lib.hid ((Fr.start (w := w) (I := [(.i64, a, sh), (.i64, b, st)]) (by intro z hz; simp at hz; rcases hz with rfl | rfl; exact H0.out; exact H1.out)).box1 (b := w.heap.size) (by simp) [.slice a sh.length c, .slice b st.length d, .int .i64 off] 25)
    simp only [List.nil_append, List.cons_append] at F1
    go_upto_region 1 with fail
    obtain ⟨W1, hW1⟩ : ∃ W1, (w.alloc (.cells #[.slice a sh.length c, .slice b st.length d, .int .i64 off] 25)) = W1 := ⟨_, rfl⟩
    rw [hW1] at F1 ⊢
    clear hW1
    have c0_0 := F1.out.c 0 0 rfl rfl
    have c0_1 := F1.out.c 0 1 rfl rfl
    have c0_2 := F1.out.c 0 2 rfl rfl
    go_quiet (fail)
    go_wp2
    go_ret
    exact ⟨rfl, below_drewN F1.out.bel _⟩
set_option maxRecDepth 100000 in
set_option maxHeartbeats 4000000 in
theorem vreshape_all (a b p : Option Addr) (c d cp : Nat) (sh st s : List Int) (off : Int) (w : World) (h : Ints .i64 w w.heap.size a sh) (h2 : Ints .i64 w w.heap.size b st) (h3 : Ints .i64 w w.heap.size p s) :
    Calls Try.prog 34 #[.agg #[.slice a sh.length c, .slice b st.length d, .int .i64 off], .slice p s.length cp] w (RetVE w (okL (rsZ sh st off s) s) (okL (rsZ sh st off s) (strI s)) 0 (rsZ sh st off s)) := by
  have hgv := fun W (h : Ints .i64 W W.heap.size a sh) (h2 : Ints .i64 W W.heap.size b st) => vgood_any a b c d W.heap.size sh st off 65536 W h h2 (Nat.le_refl _)
  have hgd := fun W (h : Ints .i64 W W.heap.size p s) => good_any p cp _ s W h
  have H0 := Lib.hid h
  have H1 := Lib.hid h2
  have H2 := Lib.hid h3
  cases hv : viewB sh st off 65536 with
  | false =>
    rw [show rsZ sh st off s = 1 by unfold rsZ; rw [hv]; rfl, okL_1, okL_1]
    rw [hv] at hgv
    clear h h2 h3 hv
    go_enter Try.func34, Try.ntmps34
    have F1 := Lib.hid (((Fr.start (w := w) (I := [(.i64, a, sh), (.i64, b, st), (.i64, p, s)]) (by intro z hz; simp at hz; rcases hz with rfl | rfl | rfl; exact H0.out; exact H1.out; exact H2.out)).box1 (b := w.heap.size) (by simp) [.slice a sh.length c, .slice b st.length d, .int .i64 off] 25).box1 (b := w.heap.size + 1) (by simp) [.slice none 0 0, .slice none 0 0, .int .i64 0] 25)
    simp only [List.nil_append, List.cons_append] at F1
    go_upto_region 1 with fail
    obtain ⟨W1, hW1⟩ : ∃ W1, ((w.alloc (.cells #[.slice a sh.length c, .slice b st.length d, .int .i64 off] 25)).alloc (.cells #[.slice none 0 0, .slice none 0 0, .int .i64 0] 25)) = W1 := ⟨_, rfl⟩
    rw [hW1] at F1 ⊢
    clear hW1
    have c0_0 := F1.out.c 0 0 rfl rfl
    have c0_1 := F1.out.c 0 1 rfl rfl
    have c0_2 := F1.out.c 0 2 rfl rfl
    have c1_0 := F1.out.c 1 0 rfl rfl
    have c1_1 := F1.out.c 1 1 rfl rfl
    have c1_2 := F1.out.c 1 2 rfl rfl
    go_wp2_with (go_at_call 49; refine (hgv _ (F1.out.lw 0 rfl) (F1.out.lw 1 rfl)).mono ?_; rintro e w2 ⟨rfl, hb⟩; have F2 := Lib.hid (F1.out.next hb); clear hb F1 c0_0 c0_1 c0_2 c1_0 c1_1 c1_2; have d0_0 := F2.out.c 0 0 rfl rfl; have d0_1 := F2.out.c 0 1 rfl rfl; have d0_2 := F2.out.c 0 2 rfl rfl; have d1_0 := F2.out.c 1 0 rfl rfl; have d1_1 := F2.out.c 1 1 rfl rfl; have d1_2 := F2.out.c 1 2 rfl rfl; have df1_0 := F2.out.f 1 0 rfl rfl; have df1_1 := F2.out.f 1 1 rfl rfl; have df1_2 := F2.out.f 1 2 rfl rfl)
    (try simp only [Exit.noGoto, Exit.inBlock, Exit.then])
    have FZ := F2.out.set 1 rfl (by simp) [.slice none 0 0, .slice none 0 0, .int .i64 0] rfl
    simp only [setL, Nat.reduceAdd, List.set_cons_zero, List.set_cons_succ] at FZ
    have z0 := FZ.c 1 0 rfl rfl
    have z1 := FZ.c 1 1 rfl rfl
    have z2 := FZ.c 1 2 rfl rfl
    refine bodyPost_ret (v := .tuple #[.agg #[.slice none 0 0, .slice none 0 0, .int .i64 0], .int .i64 1]) ?_ rfl (retVE_none FZ)
    rw [results_ctW rfl]
    go_simp
  | true =>
    cases hg : goodB s with
    | false =>
      rw [show rsZ sh st off s = 1 by unfold rsZ; rw [hv, hg]; rfl, okL_1, okL_1]
      rw [hv] at hgv
      rw [hg] at hgd
      clear h h2 h3 hv hg
      go_enter Try.func34, Try.ntmps34
      have F1 := Lib.hid (((Fr.start (w := w) (I := [(.i64, a, sh), (.i64, b, st), (.i64, p, s)]) (by intro z hz; simp at hz; rcases hz with rfl | rfl | rfl; exact H0.out; exact H1.out; exact H2.out)).box1 (b := w.heap.size) (by simp) [.slice a sh.length c, .slice b st.length d, .int .i64 off] 25).box1 (b := w.heap.size + 1) (by simp) [.slice none 0 0, .slice none 0 0, .int .i64 0] 25)
      simp only [List.nil_append, List.cons_append] at F1
      go_upto_region 1 with fail
      obtain ⟨W1, hW1⟩ : ∃ W1, ((w.alloc (.cells #[.slice a sh.length c, .slice b st.length d, .int .i64 off] 25)).alloc (.cells #[.slice none 0 0, .slice none 0 0, .int .i64 0] 25)) = W1 := ⟨_, rfl⟩
      rw [hW1] at F1 ⊢
      clear hW1
      have c0_0 := F1.out.c 0 0 rfl rfl
      have c0_1 := F1.out.c 0 1 rfl rfl
      have c0_2 := F1.out.c 0 2 rfl rfl
      have c1_0 := F1.out.c 1 0 rfl rfl
      have c1_1 := F1.out.c 1 1 rfl rfl
      have c1_2 := F1.out.c 1 2 rfl rfl
      go_wp2_with (first | (go_at_call 49; refine (hgv _ (F1.out.lw 0 rfl) (F1.out.lw 1 rfl)).mono ?_; rintro e w2 ⟨rfl, hb⟩; have F2 := Lib.hid (F1.out.next hb); clear hb F1 c0_0 c0_1 c0_2 c1_0 c1_1 c1_2; have d0_0 := F2.out.c 0 0 rfl rfl; have d0_1 := F2.out.c 0 1 rfl rfl; have d0_2 := F2.out.c 0 2 rfl rfl; have d1_0 := F2.out.c 1 0 rfl rfl; have d1_1 := F2.out.c 1 1 rfl rfl; have d1_2 := F2.out.c 1 2 rfl rfl; have df1_0 := F2.out.f 1 0 rfl rfl; have df1_1 := F2.out.f 1 1 rfl rfl; have df1_2 := F2.out.f 1 2 rfl rfl) | (go_at_call 54; refine (hgd _ (F2.out.lw 2 rfl)).mono ?_; rintro e w' ⟨rfl, rfl⟩; skip) | fail)
      (try simp only [Exit.noGoto, Exit.inBlock, Exit.then])
      have FZ := F2.out.set 1 rfl (by simp) [.slice none 0 0, .slice none 0 0, .int .i64 0] rfl
      simp only [setL, Nat.reduceAdd, List.set_cons_zero, List.set_cons_succ] at FZ
      have z0 := FZ.c 1 0 rfl rfl
      have z1 := FZ.c 1 1 rfl rfl
      have z2 := FZ.c 1 2 rfl rfl
      refine bodyPost_ret (v := .tuple #[.agg #[.slice none 0 0, .slice none 0 0, .int .i64 0], .int .i64 1]) ?_ rfl (retVE_none FZ)
      rw [results_ctW rfl]
      go_simp
    | true =>
      have HG0 := Lib.hid (viewB_iff.1 hv).1
      have HG1 := Lib.hid hg
      have h4 := (goodB_iff.1 (viewB_iff.1 hv).1).1
      have h5 := (goodB_iff.1 hg).1
      have hsz := Lib.hid (fun W (h : Ints .i64 W W.heap.size a sh) => size_any a c _ sh W h HG0.out)
      have hsz2 := Lib.hid (fun W (h : Ints .i64 W W.heap.size p s) => size_any p cp _ s W h HG1.out)
      have hrz : rsZ sh st off s = if (decide (prodI sh = prodI s) && plB sh st off) = true then 0 else 2 := by unfold rsZ; rw [hv, hg]; rfl
      rw [hv] at hgv
      rw [hg] at hgd
      clear h h2 h3 hv hg
      obtain ⟨X, hX⟩ : ∃ x, prodI sh = x := ⟨_, rfl⟩
      obtain ⟨Y, hY⟩ : ∃ x, prodI s = x := ⟨_, rfl⟩
      rw [hX] at hsz hrz
      rw [hY] at hsz2 hrz
      clear hX hY
      by_cases hxy : X = Y
      · skip
        subst hxy
        simp only [decide_true, Bool.true_and] at hrz
        by_cases h0 : off = 0
        · skip
          subst h0
          rw [show plB sh st 0 = decide (st = strI sh) by unfold plB; simp] at hrz
          have hpl := fun W (h : Ints .i64 W W.heap.size p s) => plain_any p cp s W h HG1.out
          obtain ⟨SI, hSI⟩ : ∃ x, strI sh = x := ⟨_, rfl⟩
          have hsw : ∀ x ∈ SI, (Lit.int .i64 x).wf = true := by rw [← hSI]; exact wf_dims fun x hx => by have := strI_mem (goodB_dims HG0.out) (goodB_prod HG0.out).2 x hx; omega
          have HSW := Lib.hid hsw
          have hst := fun W (h : Ints .i64 W W.heap.size a sh) => steps_any a c sh W h HG0.out
          rw [hSI] at hst hrz
          have HST := Lib.hid hst
          have HPL := Lib.hid hpl
          obtain ⟨S2, hS2⟩ : ∃ x, strI s = x := ⟨_, rfl⟩
          rw [hS2] at HPL ⊢
          clear hsw hst hSI hpl hS2
          obtain ⟨B, hB⟩ : ∃ B, decide (st = SI) = B := ⟨_, rfl⟩
          rw [hB] at hrz
          have HRZ := Lib.hid hrz
          clear hrz
          go_enter Try.func34, Try.ntmps34
          have F1 := Lib.hid (((Fr.start (w := w) (I := [(.i64, a, sh), (.i64, b, st), (.i64, p, s)]) (by intro z hz; simp at hz; rcases hz with rfl | rfl | rfl; exact H0.out; exact H1.out; exact H2.out)).box1 (b := w.heap.size) (by simp) [.slice a sh.length c, .slice b st.length d, .int .i64 0] 25).box1 (b := w.heap.size + 1) (by simp) [.slice none 0 0, .slice none 0 0, .int .i64 0] 25)
          simp only [List.nil_append, List.cons_append] at F1
          go_upto_region 1 with fail
          obtain ⟨W1, hW1⟩ : ∃ W1, ((w.alloc (.cells #[.slice a sh.length c, .slice b st.length d, .int .i64 0] 25)).alloc (.cells #[.slice none 0 0, .slice none 0 0, .int .i64 0] 25)) = W1 := ⟨_, rfl⟩
          rw [hW1] at F1 ⊢
          clear hW1
          have c0_0 := F1.out.c 0 0 rfl rfl
          have c0_1 := F1.out.c 0 1 rfl rfl
          have c0_2 := F1.out.c 0 2 rfl rfl
          have c1_0 := F1.out.c 1 0 rfl rfl
          have c1_1 := F1.out.c 1 1 rfl rfl
          have c1_2 := F1.out.c 1 2 rfl rfl
          go_upto_region 3 with (first | (go_at_call 49; refine (hgv _ (F1.out.lw 0 rfl) (F1.out.lw 1 rfl)).mono ?_; rintro e w2 ⟨rfl, hb⟩; have F2 := Lib.hid (F1.out.next hb); clear hb F1 c0_0 c0_1 c0_2 c1_0 c1_1 c1_2; have d0_0 := F2.out.c 0 0 rfl rfl; have d0_1 := F2.out.c 0 1 rfl rfl; have d0_2 := F2.out.c 0 2 rfl rfl) | (go_at_call 54; refine (hgd _ (F2.out.lw 2 rfl)).mono ?_; rintro e w' ⟨rfl, rfl⟩; skip) | fail)
          clear hgv hgd
          obtain ⟨W2, rfl⟩ : ∃ x : World, x = w2 := ⟨_, rfl⟩
          refine wp_region_parts2 (w := W2) 20 1 none [] [(fun u _ => u = .pointer (some ⟨w.heap.size, 0, none⟩)), (fun u _ => u = .slice a sh.length c), (fun u _ => u = .int .i64 X), (fun u _ => u = .slice p s.length cp), (fun u _ => u = .int .i64 X), (fun u _ => u = .bool false), (fun u _ => u = .bool false), (fun u _ => u = .pointer (some ⟨w.heap.size, 2, none⟩)), (fun u _ => u = .int .i64 0), (fun u _ => u = .bool false), (fun u _ => u = .bool false), (fun u _ => u = .bool false), (fun u _ => u = .pointer (some ⟨w.heap.size, 1, none⟩)), (fun u _ => u = .slice b st.length d), (fun u _ => u = .pointer (some ⟨w.heap.size, 0, none⟩)), (fun u _ => u = .slice a sh.length c), ((IsRow W2.heap.size 3 SI.length (SI.map (Value.int .i64)))), (fun u _ => u = .bool B), (fun u _ => u = .bool (!B)), (fun u _ => u = .bool (!B))] [some 17, some 18, some 19, some 20, some 21, some 22, some 23, some 24, some 25, some 26, some 27, some 28, some 29, some 30, some 31, some 32, some 33, some 34, some 35, some 36, some 16] #[true, true, true, true, true, true, true, true, true, true, true, true, true, true, true, true, true, true, true, true, false] #[true, true, true, true, true, true, true, true, true, true, true, true, true, true, true, true, true, true, true, true, false] (by kernel_rfl) rfl (by kernel_rfl) (by kernel_rfl) rfl (by kernel_rfl) (by kernel_rfl) (.cons (carries_eq _) (.cons (carries_eq _) (.cons (carries_eq _) (.cons (carries_eq _) (.cons (carries_eq _) (.cons (carries_eq _) (.cons (carries_eq _) (.cons (carries_eq _) (.cons (carries_eq _) (.cons (carries_eq _) (.cons (carries_eq _) (.cons (carries_eq _) (.cons (carries_eq _) (.cons (carries_eq _) (.cons (carries_eq _) (.cons (carries_eq _) (.cons (isRow_carries _ _ _ _) (.cons (carries_eq _) (.cons (carries_eq _) (.cons (carries_eq _) .nil)))))))))))))))))))) (fun vs b hvl hvb => ?_)
          obtain ⟨x0, x1, x2, x3, x4, x5, x6, x7, x8, x9, x10, x11, x12, x13, x14, x15, x16, x17, x18, x19, x20, rfl⟩ : ∃ x0 x1 x2 x3 x4 x5 x6 x7 x8 x9 x10 x11 x12 x13 x14 x15 x16 x17 x18 x19 x20, vs = [x0, x1, x2, x3, x4, x5, x6, x7, x8, x9, x10, x11, x12, x13, x14, x15, x16, x17, x18, x19, x20] := lst21 hvl
          clear hvl
          simp only [putAll, Act.put, List.setIfInBounds_toArray, List.set_cons_zero, List.set_cons_succ] at hvb
          subst hvb
          refine ⟨(.snoc (.snoc (.snoc (.snoc (.snoc (.snoc (.snoc (.snoc (.snoc (.snoc (.snoc (.snoc (.snoc (.snoc (.snoc (.snoc (.snoc (.snoc (.snoc (.snoc .zero (PartOb.intro (d := (some 17)) (r := fun u _ => u = .pointer (some ⟨w.heap.size, 0, none⟩)) rfl rfl rfl rfl ?po3x0)) (PartOb.intro (d := (some 18)) (r := fun u _ => u = .slice a sh.length c) rfl rfl rfl rfl ?po3x1)) (PartOb.intro (d := (some 19)) (r := fun u _ => u = .int .i64 X) rfl rfl rfl rfl ?po3x2)) (PartOb.intro (d := (some 20)) (r := fun u _ => u = .slice p s.length cp) rfl rfl rfl rfl ?po3x3)) (PartOb.intro (d := (some 21)) (r := fun u _ => u = .int .i64 X) rfl rfl rfl rfl ?po3x4)) (PartOb.intro (d := (some 22)) (r := fun u _ => u = .bool false) rfl rfl rfl rfl ?po3x5)) (PartOb.intro (d := (some 23)) (r := fun u _ => u = .bool false) rfl rfl rfl rfl ?po3x6)) (PartOb.intro (d := (some 24)) (r := fun u _ => u = .pointer (some ⟨w.heap.size, 2, none⟩)) rfl rfl rfl rfl ?po3x7)) (PartOb.intro (d := (some 25)) (r := fun u _ => u = .int .i64 0) rfl rfl rfl rfl ?po3x8)) (PartOb.intro (d := (some 26)) (r := fun u _ => u = .bool false) rfl rfl rfl rfl ?po3x9)) (PartOb.intro (d := (some 27)) (r := fun u _ => u = .bool false) rfl rfl rfl rfl ?po3x10)) (PartOb.intro (d := (some 28)) (r := fun u _ => u = .bool false) rfl rfl rfl rfl ?po3x11)) (PartOb.intro (d := (some 29)) (r := fun u _ => u = .pointer (some ⟨w.heap.size, 1, none⟩)) rfl rfl rfl rfl ?po3x12)) (PartOb.intro (d := (some 30)) (r := fun u _ => u = .slice b st.length d) rfl rfl rfl rfl ?po3x13)) (PartOb.intro (d := (some 31)) (r := fun u _ => u = .pointer (some ⟨w.heap.size, 0, none⟩)) rfl rfl rfl rfl ?po3x14)) (PartOb.intro (d := (some 32)) (r := fun u _ => u = .slice a sh.length c) rfl rfl rfl rfl ?po3x15)) (PartOb.intro (d := (some 33)) (r := (IsRow W2.heap.size 3 SI.length (SI.map (Value.int .i64)))) rfl rfl rfl rfl ?po3x16)) (PartOb.intro (d := (some 34)) (r := fun u _ => u = .bool B) rfl rfl rfl rfl ?po3x17)) (PartOb.intro (d := (some 35)) (r := fun u _ => u = .bool (!B)) rfl rfl rfl rfl ?po3x18)) (PartOb.intro (d := (some 36)) (r := fun u _ => u = .bool (!B)) rfl rfl rfl rfl ?po3x19)), ?pend3, ?pfl3⟩
          case po3x0 =>
            intro w1 hb1 hd KK hK
            clear hd
            simp only [Act.put, List.setIfInBounds_toArray, List.set_cons_zero, List.set_cons_succ] at hK
            go_simp
            first | exact hK.out _ _ (Below.refl _ _) rfl | (have hk := hK.out _ _ (Below.refl _ _) rfl; revert hk; go_simp)
          case po3x1 =>
            intro w1 hb1 hd KK hK
            have d0 : x0 = .pointer (some ⟨w.heap.size, 0, none⟩) := hd 0 (by kernel_rfl)
            clear hd
            subst d0
            have hF := F2.out.next hb1
            have k0 := hF.c 0 0 rfl rfl
            have k1 := hF.c 0 1 rfl rfl
            have k2 := hF.c 0 2 rfl rfl
            simp only [Act.put, List.setIfInBounds_toArray, List.set_cons_zero, List.set_cons_succ] at hK
            go_simp
            first | exact hK.out _ _ (Below.refl _ _) rfl | (have hk := hK.out _ _ (Below.refl _ _) rfl; revert hk; go_simp)
          case po3x2 =>
            intro w1 hb1 hd KK hK
            have d1 : x1 = .slice a sh.length c := hd 1 (by kernel_rfl)
            clear hd
            subst d1
            simp only [Act.put, List.setIfInBounds_toArray, List.set_cons_zero, List.set_cons_succ] at hK
            go_simp
            go_at_call 52
            refine (hsz.out w1 ((F2.out.next hb1).lw 0 rfl)).mono ?_
            rintro e w2 ⟨rfl, rfl⟩
            (try go_wp2_with fail)
            first | exact hK.out _ _ (Below.refl _ _) rfl | (have hk := hK.out _ _ (Below.refl _ _) rfl; revert hk; go_simp)
          case po3x3 =>
            intro w1 hb1 hd KK hK
            clear hd
            simp only [Act.put, List.setIfInBounds_toArray, List.set_cons_zero, List.set_cons_succ] at hK
            go_simp
            first | exact hK.out _ _ (Below.refl _ _) rfl | (have hk := hK.out _ _ (Below.refl _ _) rfl; revert hk; go_simp)
          case po3x4 =>
            intro w1 hb1 hd KK hK
            have d2 : x2 = .int .i64 X := hd 2 (by kernel_rfl)
            have d3 : x3 = .slice p s.length cp := hd 3 (by kernel_rfl)
            clear hd
            subst d2
            subst d3
            simp only [Act.put, List.setIfInBounds_toArray, List.set_cons_zero, List.set_cons_succ] at hK
            go_simp
            go_at_call 52
            refine (hsz2.out w1 ((F2.out.next hb1).lw 2 rfl)).mono ?_
            rintro e w2 ⟨rfl, rfl⟩
            (try go_wp2_with fail)
            first | exact hK.out _ _ (Below.refl _ _) rfl | (have hk := hK.out _ _ (Below.refl _ _) rfl; revert hk; go_simp)
          case po3x5 =>
            intro w1 hb1 hd KK hK
            have d2 : x2 = .int .i64 X := hd 2 (by kernel_rfl)
            have d4 : x4 = .int .i64 X := hd 4 (by kernel_rfl)
            clear hd
            subst d2
            subst d4
            simp only [Act.put, List.setIfInBounds_toArray, List.set_cons_zero, List.set_cons_succ] at hK
            go_simp
            first | exact hK.out _ _ (Below.refl _ _) rfl | (have hk := hK.out _ _ (Below.refl _ _) rfl; revert hk; go_simp)
          case po3x6 =>
            intro w1 hb1 hd KK hK
            have d4 : x4 = .int .i64 X := hd 4 (by kernel_rfl)
            have d5 : x5 = .bool false := hd 5 (by kernel_rfl)
            clear hd
            subst d4
            subst d5
            simp only [Act.put, List.setIfInBounds_toArray, List.set_cons_zero, List.set_cons_succ] at hK
            go_simp
            first | exact hK.out _ _ (Below.refl _ _) rfl | (have hk := hK.out _ _ (Below.refl _ _) rfl; revert hk; go_simp)
          case po3x7 =>
            intro w1 hb1 hd KK hK
            have d6 : x6 = .bool false := hd 6 (by kernel_rfl)
            clear hd
            subst d6
            simp only [Act.put, List.setIfInBounds_toArray, List.set_cons_zero, List.set_cons_succ] at hK
            go_simp
            first | exact hK.out _ _ (Below.refl _ _) rfl | (have hk := hK.out _ _ (Below.refl _ _) rfl; revert hk; go_simp)
          case po3x8 =>
            intro w1 hb1 hd KK hK
            have d6 : x6 = .bool false := hd 6 (by kernel_rfl)
            have d7 : x7 = .pointer (some ⟨w.heap.size, 2, none⟩) := hd 7 (by kernel_rfl)
            clear hd
            subst d6
            subst d7
            have hF := F2.out.next hb1
            have k0 := hF.c 0 0 rfl rfl
            have k1 := hF.c 0 1 rfl rfl
            have k2 := hF.c 0 2 rfl rfl
            simp only [Act.put, List.setIfInBounds_toArray, List.set_cons_zero, List.set_cons_succ] at hK
            go_simp
            first | exact hK.out _ _ (Below.refl _ _) rfl | (have hk := hK.out _ _ (Below.refl _ _) rfl; revert hk; go_simp)
          case po3x9 =>
            intro w1 hb1 hd KK hK
            have d6 : x6 = .bool false := hd 6 (by kernel_rfl)
            have d8 : x8 = .int .i64 0 := hd 8 (by kernel_rfl)
            clear hd
            subst d6
            subst d8
            simp only [Act.put, List.setIfInBounds_toArray, List.set_cons_zero, List.set_cons_succ] at hK
            go_simp
            first | exact hK.out _ _ (Below.refl _ _) rfl | (have hk := hK.out _ _ (Below.refl _ _) rfl; revert hk; go_simp)
          case po3x10 =>
            intro w1 hb1 hd KK hK
            have d6 : x6 = .bool false := hd 6 (by kernel_rfl)
            have d9 : x9 = .bool false := hd 9 (by kernel_rfl)
            clear hd
            subst d6
            subst d9
            simp only [Act.put, List.setIfInBounds_toArray, List.set_cons_zero, List.set_cons_succ] at hK
            go_simp
            first | exact hK.out _ _ (Below.refl _ _) rfl | (have hk := hK.out _ _ (Below.refl _ _) rfl; revert hk; go_simp)
          case po3x11 =>
            intro w1 hb1 hd KK hK
            have d6 : x6 = .bool false := hd 6 (by kernel_rfl)
            have d10 : x10 = .bool false := hd 10 (by kernel_rfl)
            clear hd
            subst d6
            subst d10
            simp only [Act.put, List.setIfInBounds_toArray, List.set_cons_zero, List.set_cons_succ] at hK
            go_simp
            first | exact hK.out _ _ (Below.refl _ _) rfl | (have hk := hK.out _ _ (Below.refl _ _) rfl; revert hk; go_simp)
          case po3x12 =>
            intro w1 hb1 hd KK hK
            have d11 : x11 = .bool false := hd 11 (by kernel_rfl)
            clear hd
            subst d11
            simp only [Act.put, List.setIfInBounds_toArray, List.set_cons_zero, List.set_cons_succ] at hK
            go_simp
            first | exact hK.out _ _ (Below.refl _ _) rfl | (have hk := hK.out _ _ (Below.refl _ _) rfl; revert hk; go_simp)
          case po3x13 =>
            intro w1 hb1 hd KK hK
            have d11 : x11 = .bool false := hd 11 (by kernel_rfl)
            have d12 : x12 = .pointer (some ⟨w.heap.size, 1, none⟩) := hd 12 (by kernel_rfl)
            clear hd
            subst d11
            subst d12
            have hF := F2.out.next hb1
            have k0 := hF.c 0 0 rfl rfl
            have k1 := hF.c 0 1 rfl rfl
            have k2 := hF.c 0 2 rfl rfl
            simp only [Act.put, List.setIfInBounds_toArray, List.set_cons_zero, List.set_cons_succ] at hK
            go_simp
            first | exact hK.out _ _ (Below.refl _ _) rfl | (have hk := hK.out _ _ (Below.refl _ _) rfl; revert hk; go_simp)
          case po3x14 =>
            intro w1 hb1 hd KK hK
            have d11 : x11 = .bool false := hd 11 (by kernel_rfl)
            clear hd
            subst d11
            simp only [Act.put, List.setIfInBounds_toArray, List.set_cons_zero, List.set_cons_succ] at hK
            go_simp
            first | exact hK.out _ _ (Below.refl _ _) rfl | (have hk := hK.out _ _ (Below.refl _ _) rfl; revert hk; go_simp)
          case po3x15 =>
            intro w1 hb1 hd KK hK
            have d11 : x11 = .bool false := hd 11 (by kernel_rfl)
            have d14 : x14 = .pointer (some ⟨w.heap.size, 0, none⟩) := hd 14 (by kernel_rfl)
            clear hd
            subst d11
            subst d14
            have hF := F2.out.next hb1
            have k0 := hF.c 0 0 rfl rfl
            have k1 := hF.c 0 1 rfl rfl
            have k2 := hF.c 0 2 rfl rfl
            simp only [Act.put, List.setIfInBounds_toArray, List.set_cons_zero, List.set_cons_succ] at hK
            go_simp
            first | exact hK.out _ _ (Below.refl _ _) rfl | (have hk := hK.out _ _ (Below.refl _ _) rfl; revert hk; go_simp)
          case po3x16 =>
            intro w1 hb1 hd KK hK
            have d11 : x11 = .bool false := hd 11 (by kernel_rfl)
            have d15 : x15 = .slice a sh.length c := hd 15 (by kernel_rfl)
            clear hd
            subst d11
            subst d15
            simp only [Act.put, List.setIfInBounds_toArray, List.set_cons_zero, List.set_cons_succ] at hK
            go_simp
            go_at_call 62
            refine (HST.out w1 ((F2.out.next hb1).lw 0 rfl)).mono ?_
            rintro e w2 ⟨v, rfl, hown, hb⟩
            obtain ⟨a16, c16, rfl, _⟩ := own_shape hown
            (try go_wp2_with fail)
            first | exact hK.out _ _ hb ⟨a16, c16, rfl, own_mono hown hb1.size⟩ | (have hk := hK.out _ _ hb ⟨a16, c16, rfl, own_mono hown hb1.size⟩; revert hk; go_simp)
          case po3x17 =>
            intro w1 hb1 hd KK hK
            have d11 : x11 = .bool false := hd 11 (by kernel_rfl)
            have d13 : x13 = .slice b st.length d := hd 13 (by kernel_rfl)
            have d16 : (IsRow W2.heap.size 3 SI.length (SI.map (Value.int .i64))) x16 w1 := hd 16 (by kernel_rfl)
            clear hd
            subst d11
            subst d13
            obtain ⟨a16, c16, rfl, hO16⟩ := d16
            obtain ⟨a9, c9, he9, hi9⟩ := own_ints hO16 HSW.out
            simp only [Value.slice.injEq] at he9
            obtain ⟨rfl, _, rfl⟩ := he9
            simp only [Act.put, List.setIfInBounds_toArray, List.set_cons_zero, List.set_cons_succ] at hK
            go_simp
            go_at_call 55
            refine (slicesEqual_any b a16 d c16 _ st SI w1 ((F2.out.next hb1).lw 1 rfl) hi9).mono ?_
            rintro e w2 ⟨rfl, q, rfl⟩
            rw [hB]
            (try go_wp2_with fail)
            first | exact hK.out _ _ (below_drewN (Below.refl _ _) _) rfl | (have hk := hK.out _ _ (below_drewN (Below.refl _ _) _) rfl; revert hk; go_simp)
          case po3x18 =>
            intro w1 hb1 hd KK hK
            have d11 : x11 = .bool false := hd 11 (by kernel_rfl)
            have d17 : x17 = .bool B := hd 17 (by kernel_rfl)
            clear hd
            subst d11
            subst d17
            simp only [Act.put, List.setIfInBounds_toArray, List.set_cons_zero, List.set_cons_succ] at hK
            go_simp
            first | exact hK.out _ _ (Below.refl _ _) rfl | (have hk := hK.out _ _ (Below.refl _ _) rfl; revert hk; go_simp)
          case po3x19 =>
            intro w1 hb1 hd KK hK
            have d11 : x11 = .bool false := hd 11 (by kernel_rfl)
            have d18 : x18 = .bool (!B) := hd 18 (by kernel_rfl)
            clear hd
            subst d11
            subst d18
            simp only [Act.put, List.setIfInBounds_toArray, List.set_cons_zero, List.set_cons_succ] at hK
            go_simp
            first | exact hK.out _ _ (Below.refl _ _) rfl | (have hk := hK.out _ _ (Below.refl _ _) rfl; revert hk; go_simp)
          case pfl3 => (intro f hf; cases hf)
          case pend3 =>
          intro w1 hb1 hR hD
          have d0 : x0 = .pointer (some ⟨w.heap.size, 0, none⟩) := hR 0 (by decide)
          have d1 : x1 = .slice a sh.length c := hR 1 (by decide)
          have d2 : x2 = .int .i64 X := hR 2 (by decide)
          have d3 : x3 = .slice p s.length cp := hR 3 (by decide)
          have d4 : x4 = .int .i64 X := hR 4 (by decide)
          have d5 : x5 = .bool false := hR 5 (by decide)
          have d6 : x6 = .bool false := hR 6 (by decide)
          have d7 : x7 = .pointer (some ⟨w.heap.size, 2, none⟩) := hR 7 (by decide)
          have d8 : x8 = .int .i64 0 := hR 8 (by decide)
          have d9 : x9 = .bool false := hR 9 (by decide)
          have d10 : x10 = .bool false := hR 10 (by decide)
          have d11 : x11 = .bool false := hR 11 (by decide)
          have d12 : x12 = .pointer (some ⟨w.heap.size, 1, none⟩) := hR 12 (by decide)
          have d13 : x13 = .slice b st.length d := hR 13 (by decide)
          have d14 : x14 = .pointer (some ⟨w.heap.size, 0, none⟩) := hR 14 (by decide)
          have d15 : x15 = .slice a sh.length c := hR 15 (by decide)
          have d16 : (IsRow W2.heap.size 3 SI.length (SI.map (Value.int .i64))) x16 w1 := hR 16 (by decide)
          have d17 : x17 = .bool B := hR 17 (by decide)
          have d18 : x18 = .bool (!B) := hR 18 (by decide)
          have d19 : x19 = .bool (!B) := hR 19 (by decide)
          clear hR hD
          subst d0
          subst d1
          subst d2
          subst d3
          subst d4
          subst d5
          subst d6
          subst d7
          subst d8
          subst d9
          subst d10
          subst d11
          subst d12
          subst d13
          subst d14
          subst d15
          obtain ⟨a16, c16, rfl, hO16⟩ := d16
          subst d17
          subst d18
          subst d19
          refine wpAny_ready (rs := [20]) (by kernel_rfl) (by simp) (AllReady.cons rfl (fun KK hK => ?_) AllReady.nil)
          go_simp
          refine hK _ _ ?_
          clear hK KK
          try simp only [putAll, Act.put, List.setIfInBounds_toArray, List.set_cons_zero, List.set_cons_succ]
          refine wpAny_done (by kernel_rfl) ?_ _
          have F3 := Lib.hid (F2.out.next hb1)
          obtain ⟨w3, rfl⟩ : ∃ x : World, x = w1 := ⟨_, rfl⟩
          clear F2 hO16 hb1 hB d0_0 d0_1 d0_2
          have e1_0 := F3.out.c 1 0 rfl rfl
          have e1_1 := F3.out.c 1 1 rfl rfl
          have e1_2 := F3.out.c 1 2 rfl rfl
          have ef1_0 := F3.out.f 1 0 rfl rfl
          have ef1_1 := F3.out.f 1 1 rfl rfl
          have ef1_2 := F3.out.f 1 2 rfl rfl
          cases B with
          | true =>
            go_wp2_with (go_at_call 61; refine (HPL.out _ (F3.out.lw 2 rfl)).mono ?_; rintro e w4 ⟨a4, c4, b4, d4, rfl, hf⟩; have F4 := Lib.hid (F3.out.join hf); simp only [List.cons_append, List.nil_append] at F4; clear hf F3 e1_0 e1_1 e1_2 ef1_0 ef1_1 ef1_2; have g1_0 := F4.out.c 1 0 rfl rfl; have g1_1 := F4.out.c 1 1 rfl rfl; have g1_2 := F4.out.c 1 2 rfl rfl; have gf1_0 := F4.out.f 1 0 rfl rfl; have gf1_1 := F4.out.f 1 1 rfl rfl; have gf1_2 := F4.out.f 1 2 rfl rfl)
            (try simp only [Exit.noGoto, Exit.inBlock, Exit.then])
            have FZ := F4.out.set 1 rfl (by simp) [.slice a4 s.length c4, .slice b4 S2.length d4, .int .i64 0] rfl
            simp only [setL, Nat.reduceAdd, List.set_cons_zero, List.set_cons_succ] at FZ
            have z0 := FZ.c 1 0 rfl rfl
            have z1 := FZ.c 1 1 rfl rfl
            have z2 := FZ.c 1 2 rfl rfl
            refine bodyPost_ret (v := .tuple #[.agg #[.slice a4 s.length c4, .slice b4 S2.length d4, .int .i64 0], .int .i64 0]) ?_ rfl (by rw [show rsZ sh st 0 s = 0 from HRZ.out, okL_0, okL_0]; exact ⟨a4, c4, b4, d4, rfl, FZ.rows⟩)
            rw [results_ctW rfl]
            go_simp
          | false =>
            go_wp2_with fail
            (try simp only [Exit.noGoto, Exit.inBlock, Exit.then])
            have FZ := F3.out.set 1 rfl (by simp) [.slice none 0 0, .slice none 0 0, .int .i64 0] rfl
            simp only [setL, Nat.reduceAdd, List.set_cons_zero, List.set_cons_succ] at FZ
            have z0 := FZ.c 1 0 rfl rfl
            have z1 := FZ.c 1 1 rfl rfl
            have z2 := FZ.c 1 2 rfl rfl
            refine bodyPost_ret (v := .tuple #[.agg #[.slice none 0 0, .slice none 0 0, .int .i64 0], .int .i64 2]) ?_ rfl (by rw [show rsZ sh st 0 s = 2 from HRZ.out, okL_2, okL_2]; exact retVE_none FZ)
            rw [results_ctW rfl]
            go_simp
        · skip
          have h0b : decide (off = 0) = false := decide_eq_false h0
          have h0c : (off != 0) = true := by simpa using h0
          rw [show rsZ sh st off s = 2 by rw [hrz]; unfold plB; simp [h0], okL_2, okL_2]
          clear hrz
          go_enter Try.func34, Try.ntmps34
          have F1 := Lib.hid (((Fr.start (w := w) (I := [(.i64, a, sh), (.i64, b, st), (.i64, p, s)]) (by intro z hz; simp at hz; rcases hz with rfl | rfl | rfl; exact H0.out; exact H1.out; exact H2.out)).box1 (b := w.heap.size) (by simp) [.slice a sh.length c, .slice b st.length d, .int .i64 off] 25).box1 (b := w.heap.size + 1) (by simp) [.slice none 0 0, .slice none 0 0, .int .i64 0] 25)
          simp only [List.nil_append, List.cons_append] at F1
          go_upto_region 1 with fail
          obtain ⟨W1, hW1⟩ : ∃ W1, ((w.alloc (.cells #[.slice a sh.length c, .slice b st.length d, .int .i64 off] 25)).alloc (.cells #[.slice none 0 0, .slice none 0 0, .int .i64 0] 25)) = W1 := ⟨_, rfl⟩
          rw [hW1] at F1 ⊢
          clear hW1
          have c0_0 := F1.out.c 0 0 rfl rfl
          have c0_1 := F1.out.c 0 1 rfl rfl
          have c0_2 := F1.out.c 0 2 rfl rfl
          have c1_0 := F1.out.c 1 0 rfl rfl
          have c1_1 := F1.out.c 1 1 rfl rfl
          have c1_2 := F1.out.c 1 2 rfl rfl
          go_upto_region 3 with (first | (go_at_call 49; refine (hgv _ (F1.out.lw 0 rfl) (F1.out.lw 1 rfl)).mono ?_; rintro e w2 ⟨rfl, hb⟩; have F2 := Lib.hid (F1.out.next hb); clear hb F1 c0_0 c0_1 c0_2 c1_0 c1_1 c1_2; have d0_0 := F2.out.c 0 0 rfl rfl; have d0_1 := F2.out.c 0 1 rfl rfl; have d0_2 := F2.out.c 0 2 rfl rfl) | (go_at_call 54; refine (hgd _ (F2.out.lw 2 rfl)).mono ?_; rintro e w' ⟨rfl, rfl⟩; skip) | fail)
          clear hgv hgd
          go_quiet (first | (go_at_call_of 52 (Value.slice a sh.length c); exact quietSame (hsz.out _ ((F2.out.drewN _).lw 0 rfl))) | (go_at_call_of 52 (Value.slice p s.length cp); exact quietSame (hsz2.out _ ((F2.out.drewN _).lw 2 rfl))))
          obtain ⟨w3, hw3⟩ : ∃ x, w2.drewN nq = x := ⟨_, rfl⟩
          have F3 := Lib.hid (F2.out.drewN nq)
          rw [hw3] at F3 ⊢
          clear hw3 F2 d0_0 d0_1 d0_2
          have e1_0 := F3.out.c 1 0 rfl rfl
          have e1_1 := F3.out.c 1 1 rfl rfl
          have e1_2 := F3.out.c 1 2 rfl rfl
          have ef1_0 := F3.out.f 1 0 rfl rfl
          have ef1_1 := F3.out.f 1 1 rfl rfl
          have ef1_2 := F3.out.f 1 2 rfl rfl
          go_wp2_with fail
          (try simp only [Exit.noGoto, Exit.inBlock, Exit.then])
          have FZ := F3.out.set 1 rfl (by simp) [.slice none 0 0, .slice none 0 0, .int .i64 0] rfl
          simp only [setL, Nat.reduceAdd, List.set_cons_zero, List.set_cons_succ] at FZ
          have z0 := FZ.c 1 0 rfl rfl
          have z1 := FZ.c 1 1 rfl rfl
          have z2 := FZ.c 1 2 rfl rfl
          refine bodyPost_ret (v := .tuple #[.agg #[.slice none 0 0, .slice none 0 0, .int .i64 0], .int .i64 2]) ?_ rfl (retVE_none FZ)
          rw [results_ctW rfl]
          go_simp
      · skip
        have hxd : (X != Y) = true := by simpa using hxy
        have hxd2 : decide (X = Y) = false := decide_eq_false hxy
        rw [show rsZ sh st off s = 2 by rw [hrz]; simp [hxy], okL_2, okL_2]
        clear hrz
        go_enter Try.func34, Try.ntmps34
        have F1 := Lib.hid (((Fr.start (w := w) (I := [(.i64, a, sh), (.i64, b, st), (.i64, p, s)]) (by intro z hz; simp at hz; rcases hz with rfl | rfl | rfl; exact H0.out; exact H1.out; exact H2.out)).box1 (b := w.heap.size) (by simp) [.slice a sh.length c, .slice b st.length d, .int .i64 off] 25).box1 (b := w.heap.size + 1) (by simp) [.slice none 0 0, .slice none 0 0, .int .i64 0] 25)
        simp only [List.nil_append, List.cons_append] at F1
        go_upto_region 1 with fail
        obtain ⟨W1, hW1⟩ : ∃ W1, ((w.alloc (.cells #[.slice a sh.length c, .slice b st.length d, .int .i64 off] 25)).alloc (.cells #[.slice none 0 0, .slice none 0 0, .int .i64 0] 25)) = W1 := ⟨_, rfl⟩
        rw [hW1] at F1 ⊢
        clear hW1
        have c0_0 := F1.out.c 0 0 rfl rfl
        have c0_1 := F1.out.c 0 1 rfl rfl
        have c0_2 := F1.out.c 0 2 rfl rfl
        have c1_0 := F1.out.c 1 0 rfl rfl
        have c1_1 := F1.out.c 1 1 rfl rfl
        have c1_2 := F1.out.c 1 2 rfl rfl
        go_upto_region 3 with (first | (go_at_call 49; refine (hgv _ (F1.out.lw 0 rfl) (F1.out.lw 1 rfl)).mono ?_; rintro e w2 ⟨rfl, hb⟩; have F2 := Lib.hid (F1.out.next hb); clear hb F1 c0_0 c0_1 c0_2 c1_0 c1_1 c1_2; have d0_0 := F2.out.c 0 0 rfl rfl; have d0_1 := F2.out.c 0 1 rfl rfl; have d0_2 := F2.out.c 0 2 rfl rfl) | (go_at_call 54; refine (hgd _ (F2.out.lw 2 rfl)).mono ?_; rintro e w' ⟨rfl, rfl⟩; skip) | fail)
        clear hgv hgd
        go_quiet (first | (go_at_call_of 52 (Value.slice a sh.length c); exact quietSame (hsz.out _ ((F2.out.drewN _).lw 0 rfl))) | (go_at_call_of 52 (Value.slice p s.length cp); exact quietSame (hsz2.out _ ((F2.out.drewN _).lw 2 rfl))))
        obtain ⟨w3, hw3⟩ : ∃ x, w2.drewN nq = x := ⟨_, rfl⟩
        have F3 := Lib.hid (F2.out.drewN nq)
        rw [hw3] at F3 ⊢
        clear hw3 F2 d0_0 d0_1 d0_2
        have e1_0 := F3.out.c 1 0 rfl rfl
        have e1_1 := F3.out.c 1 1 rfl rfl
        have e1_2 := F3.out.c 1 2 rfl rfl
        have ef1_0 := F3.out.f 1 0 rfl rfl
        have ef1_1 := F3.out.f 1 1 rfl rfl
        have ef1_2 := F3.out.f 1 2 rfl rfl
        go_wp2_with fail
        (try simp only [Exit.noGoto, Exit.inBlock, Exit.then])
        have FZ := F3.out.set 1 rfl (by simp) [.slice none 0 0, .slice none 0 0, .int .i64 0] rfl
        simp only [setL, Nat.reduceAdd, List.set_cons_zero, List.set_cons_succ] at FZ
        have z0 := FZ.c 1 0 rfl rfl
        have z1 := FZ.c 1 1 rfl rfl
        have z2 := FZ.c 1 2 rfl rfl
        refine bodyPost_ret (v := .tuple #[.agg #[.slice none 0 0, .slice none 0 0, .int .i64 0], .int .i64 2]) ?_ rfl (retVE_none FZ)
        rw [results_ctW rfl]
        go_simp
theorem box3_at (w : World) (v0 v1 v2 : Value) (t : TypeId) : (w.alloc (.cells #[v0, v1, v2] t)).cell? ⟨w.heap.size, 0, none⟩ = some v0 ∧ (w.alloc (.cells #[v0, v1, v2] t)).cell? ⟨w.heap.size, 1, none⟩ = some v1 := by
  have h := BoxL.new w [v0, v1, v2] t
  exact ⟨h.cell 0 _ rfl, h.cell 1 _ rfl⟩
set_option maxRecDepth 100000 in
theorem spoilV2_any (a b : Option Addr) (c d base : Nat) (sh ys : List Int) (off : Int) (w : World) (h : w.ownsRow base 3 1 (.slice a sh.length c) sh.length (sh.map (Value.int .i64))) (h2 : w.ownsRow base 3 1 (.slice b ys.length d) ys.length (ys.map (Value.int .i64))) (hne : ∀ g, (Value.slice a sh.length c).ownBlock = some g → (Value.slice b ys.length d).ownBlock ≠ some g) (hn : sh.length ≤ 100000) (hn2 : ys.length ≤ 100000) (hb : base ≤ w.heap.size) :
    Calls Try.prog 64 #[.agg #[.slice a sh.length c, .slice b ys.length d, .int .i64 off]] w fun e w' => e = .returned (.tuple #[]) ∧ ∃ W1 W2, Below w.heap.size w W1 ∧ W1.grownBy W2 (Value.slice a sh.length c).ownBlock ∧ W2.grownBy w' (Value.slice b ys.length d).ownBlock := by
  go_enter Try.func64, Try.ntmps64
  have HO := Lib.hid (h.alloc (.cells #[.slice a sh.length c, .slice b ys.length d, .int .i64 off] 25))
  have HP := Lib.hid (h2.alloc (.cells #[.slice a sh.length c, .slice b ys.length d, .int .i64 off] 25))
  have HB := Lib.hid ((Below.refl w.heap.size w).alloc (Nat.le_refl _) (.cells #[.slice a sh.length c, .slice b ys.length d, .int .i64 off] 25))
  have HLT := Lib.hid h.lt
  have HLT2 := Lib.hid h2.lt
  have HNE := Lib.hid hne
  have hbx := box3_at w (.slice a sh.length c) (.slice b ys.length d) (.int .i64 off) 25
  have HX := Lib.hid hbx
  clear h h2 hne hbx
  go_upto_region 1 with fail
  obtain ⟨B, hB⟩ : ∃ x, w.heap.size = x := ⟨_, rfl⟩
  obtain ⟨W1, hW1⟩ : ∃ W1, w.alloc (.cells #[.slice a sh.length c, .slice b ys.length d, .int .i64 off] 25) = W1 := ⟨_, rfl⟩
  have hs1 : W1.heap.size = B + 1 := by rw [← hW1]; simp [hB]
  rw [hW1] at HO HP HB HX ⊢
  rw [hB] at HX HLT HLT2 hb HB ⊢
  clear hW1
  obtain ⟨x0, x1⟩ := HX.out
  have HC1 := Lib.hid (numbers_any a c base sh W1 HO.out (by omega) (by omega))
  go_upto_region 2 with (go_at_call 57; refine HC1.out.mono ?_; rintro e w2 ⟨rfl, hg, hbl⟩; have HG := Lib.hid hg; have HBL := Lib.hid hbl; clear hg hbl)
  have y1 := HG.out.cell x1 (fun e => by have := HLT.out B e.symm; omega)
  have HP2 := Lib.hid (HP.out.kept HG.out (by
    cases hv : (Value.slice a sh.length c).ownBlock with
    | none => cases hv2 : (Value.slice b ys.length d).ownBlock <;> simp
    | some g => exact .inr (HNE.out g hv)))
  have hsz := HG.out.size
  have HC2 := Lib.hid (numbers_any b d base ys w2 HP2.out (by omega) (by omega))
  clear x0 x1
  go_wp2_with (go_at_call 57; refine HC2.out.mono ?_; rintro e w3 ⟨rfl, hg, hbl⟩; have HG3 := Lib.hid hg; clear hg hbl)
  go_end0
  exact ⟨rfl, _, _, (by rw [hB]; exact HB.out), HG.out, HG3.out⟩
set_option maxRecDepth 100000 in
set_option maxHeartbeats 1000000 in
theorem is7_any (a b p q : Option Addr) (c d cp cq base : Nat) (sh st ps pt : List Int) (off po e bad : Int) (w : World) (h : w.ownsRow base 3 1 (.slice a sh.length c) sh.length (sh.map (Value.int .i64))) (h2 : w.ownsRow base 3 1 (.slice b st.length d) st.length (st.map (Value.int .i64))) (hne : ∀ g, (Value.slice a sh.length c).ownBlock = some g → (Value.slice b st.length d).ownBlock ≠ some g) (hn : sh.length ≤ 100000) (hn2 : st.length ≤ 100000) (hb : base ≤ w.heap.size)
    (hw1 : ∀ x ∈ sh, (Lit.int .i64 x).wf = true) (hw2 : ∀ x ∈ st, (Lit.int .i64 x).wf = true) (h3 : Ints .i64 w w.heap.size p ps) (h4 : Ints .i64 w w.heap.size q pt) (he : e = bad) (h0 : bad = 0 → sh = ps ∧ st = pt ∧ off = po) (h1 : bad ≠ 0 → sh = [] ∧ st = [] ∧ off = 0) :
    Calls Try.prog 42 #[.agg #[.slice a sh.length c, .slice b st.length d, .int .i64 off], .int .i64 e, .int .i64 bad, .agg #[.slice p ps.length cp, .slice q pt.length cq, .int .i64 po]] w fun r w' => r = .returned (.bool true) ∧ ∃ W1 W2, Below w.heap.size w W1 ∧ W1.grownBy W2 (Value.slice a sh.length c).ownBlock ∧ W2.grownBy w' (Value.slice b st.length d).ownBlock := by
  subst he
  have HO := Lib.hid h
  have HP := Lib.hid h2
  have H3 := Lib.hid h3
  have H4 := Lib.hid h4
  have HNE := Lib.hid hne
  have HW1 := Lib.hid hw1
  have HW2 := Lib.hid hw2
  have hi1 := (own_intsE h hw1)
  have hi2 := (own_intsE h2 hw2)
  have HI1 := Lib.hid hi1
  have HI2 := Lib.hid hi2
  clear h h2 h3 h4 hne hw1 hw2 hi1 hi2
  by_cases hz : e = 0
  · obtain ⟨rfl, rfl, rfl⟩ := h0 hz
    subst hz
    clear h0 h1
    have F0 := Lib.hid (Fr.start (w := w) (I := [(.i64, a, sh), (.i64, b, st), (.i64, p, sh), (.i64, q, st)]) (by intro z hz; simp at hz; rcases hz with rfl | rfl | rfl | rfl; exact HI1.out; exact HI2.out; exact H3.out; exact H4.out))
    go_enter Try.func42, Try.ntmps42
    have F1 := Lib.hid ((F0.out.box1 (b := w.heap.size) rfl [.slice a sh.length c, .slice b st.length d, .int .i64 off] 25).box1 (b := w.heap.size + 1) (by simp) [.slice p sh.length cp, .slice q st.length cq, .int .i64 off] 25)
    simp only [List.nil_append, List.cons_append] at F1
    go_upto_region 1 with fail
    obtain ⟨W1, hW1⟩ : ∃ W1, ((w.alloc (.cells #[.slice a sh.length c, .slice b st.length d, .int .i64 off] 25)).alloc (.cells #[.slice p sh.length cp, .slice q st.length cq, .int .i64 off] 25)) = W1 := ⟨_, rfl⟩
    rw [hW1] at F1 ⊢
    clear hW1 F0
    have c0_0 := F1.out.c 0 0 rfl rfl
    have c0_1 := F1.out.c 0 1 rfl rfl
    have c0_2 := F1.out.c 0 2 rfl rfl
    have c1_0 := F1.out.c 1 0 rfl rfl
    have c1_1 := F1.out.c 1 1 rfl rfl
    have c1_2 := F1.out.c 1 2 rfl rfl
    have hev := eqView_any a b p q c d cp cq sh st sh st off off W1 (F1.out.lw 0 rfl) (F1.out.lw 1 rfl) (F1.out.lw 2 rfl) (F1.out.lw 3 rfl)
    simp only [decide_true, Bool.and_true] at hev
    have HEV := Lib.hid hev
    clear hev
    go_upto_region 4 with (first | (go_at_call 18; refine (num7_any _ _).mono ?_; rintro e w' ⟨rfl, rfl⟩) | (go_at_call 26; refine (HEV.out).mono ?_; rintro e w2 ⟨rfl, hb⟩; have F2 := Lib.hid (F1.out.next hb); clear hb F1 c0_0 c0_1 c0_2 c1_0 c1_1 c1_2; have d0_0 := F2.out.c 0 0 rfl rfl; have d0_1 := F2.out.c 0 1 rfl rfl; have d0_2 := F2.out.c 0 2 rfl rfl) | fail)
    have HS := Lib.hid (spoilV2_any a b c d base sh st off w2 (own_below HO.out F2.out.bel (Nat.le_refl _)) (own_below HP.out F2.out.bel (Nat.le_refl _)) HNE.out hn hn2 (by have := F2.out.hlo; omega))
    go_wp2_with (go_at_call 64; refine HS.out.mono ?_; rintro e w3 ⟨rfl, U1, U2, hb1, hg2, hg3⟩; have G1 := Lib.hid hb1; have G2 := Lib.hid hg2; have G3 := Lib.hid hg3; clear hb1 hg2 hg3)
    go_ret
    exact ⟨rfl, U1, U2, F2.out.bel.trans (G1.out.mono F2.out.hlo), G2.out, G3.out⟩
  · skip
    obtain ⟨rfl, rfl, rfl⟩ := h1 hz
    have hz2 : (e != 0) = true := by simpa using hz
    clear h0 h1
    have F0 := Lib.hid (Fr.start (w := w) (I := [(.i64, a, []), (.i64, b, [])]) (by intro z hz; simp at hz; rcases hz with rfl | rfl; exact HI1.out; exact HI2.out))
    simp only [List.length_nil]
    go_enter Try.func42, Try.ntmps42
    have F1 := Lib.hid ((F0.out.box1 (b := w.heap.size) rfl [.slice a 0 c, .slice b 0 d, .int .i64 0] 25).box1 (b := w.heap.size + 1) (by simp) [.slice p ps.length cp, .slice q pt.length cq, .int .i64 po] 25)
    simp only [List.nil_append, List.cons_append] at F1
    go_upto_region 1 with fail
    obtain ⟨W1, hW1⟩ : ∃ W1, ((w.alloc (.cells #[.slice a 0 c, .slice b 0 d, .int .i64 0] 25)).alloc (.cells #[.slice p ps.length cp, .slice q pt.length cq, .int .i64 po] 25)) = W1 := ⟨_, rfl⟩
    rw [hW1] at F1 ⊢
    clear hW1 F0
    have c0_0 := F1.out.c 0 0 rfl rfl
    have c0_1 := F1.out.c 0 1 rfl rfl
    have c0_2 := F1.out.c 0 2 rfl rfl
    have c1_0 := F1.out.c 1 0 rfl rfl
    have c1_1 := F1.out.c 1 1 rfl rfl
    have c1_2 := F1.out.c 1 2 rfl rfl
    have hev := eqView_any a b none none c d 0 0 [] [] [] [] 0 0 W1 (F1.out.lw 0 rfl) (F1.out.lw 1 rfl) (ints_nil _ _) (ints_nil _ _)
    simp only [decide_true, Bool.and_true, List.length_nil] at hev
    have HEV := Lib.hid hev
    clear hev
    go_wp2_with (first | (go_at_call 18; refine (num7_any _ _).mono ?_; rintro e w' ⟨rfl, rfl⟩) | (go_at_call 26; refine (HEV.out).mono ?_; rintro e w2 ⟨rfl, hb⟩; have F2 := Lib.hid (F1.out.next hb); clear hb F1) | fail)
    go_ret
    exact ⟨rfl, _, _, F2.out.bel, grownR _ _, grownR _ _⟩
end Go.Proofs.Ytnafbgkfhojamaa
