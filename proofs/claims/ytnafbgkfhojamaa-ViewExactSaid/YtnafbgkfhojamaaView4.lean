/- Walks: what a view shows, copied. -/
import Derived.Test.YtnafbgkfhojamaaView3
import Derived.Test.YtnafbgkfhojamaaVWords
import Derived.Test.YtnafbgkfhojamaaPartsIn
import Derived.Test.YtnafbgkfhojamaaPartsL
set_option linter.unusedVariables false
set_option linter.unusedSimpArgs false
namespace Go.Proofs.Ytnafbgkfhojamaa
open Go.RowKit Go.Rt
theorem lst9 {α : Type} {l : List α} (h : l.length = 9) : ∃ x0 x1 x2 x3 x4 x5 x6 x7 x8, l = [x0, x1, x2, x3, x4, x5, x6, x7, x8] := by
  match l, h with
  | [x0, x1, x2, x3, x4, x5, x6, x7, x8], _ => exact ⟨x0, x1, x2, x3, x4, x5, x6, x7, x8, rfl⟩
theorem lst10 {α : Type} {l : List α} (h : l.length = 10) : ∃ x0 x1 x2 x3 x4 x5 x6 x7 x8 x9, l = [x0, x1, x2, x3, x4, x5, x6, x7, x8, x9] := by
  match l, h with
  | [x0, x1, x2, x3, x4, x5, x6, x7, x8, x9], _ => exact ⟨x0, x1, x2, x3, x4, x5, x6, x7, x8, x9, rfl⟩
theorem lst17 {α : Type} {l : List α} (h : l.length = 17) : ∃ x0 x1 x2 x3 x4 x5 x6 x7 x8 x9 x10 x11 x12 x13 x14 x15 x16, l = [x0, x1, x2, x3, x4, x5, x6, x7, x8, x9, x10, x11, x12, x13, x14, x15, x16] := by
  match l, h with
  | [x0, x1, x2, x3, x4, x5, x6, x7, x8, x9, x10, x11, x12, x13, x14, x15, x16], _ => exact ⟨x0, x1, x2, x3, x4, x5, x6, x7, x8, x9, x10, x11, x12, x13, x14, x15, x16, rfl⟩

theorem results_ctV {fn : Func} {p u : Tmp} {ty : TypeId} (h : fn.results = #[.cell p ty, .tmp u]) (tmps : Array Value) (P : Program) (w : World) :
    (results fn tmps).run P w = ((asAddr (tmps.getD p undef)).run P w).andThen fun a w₁ => ((loadVar ty a).run P w₁).andThen fun v w₂ => .ok (.tuple #[v, tmps.getD u undef]) w₂ := by
  simp only [results, h]
  simp [Sem.run_bind, Result.andThen]
theorem frontL_lenV (S : List Int) (k : Nat) (h : k ≤ S.length) : (frontL S k).length = S.length := by simp [frontL]; omega
theorem vwords_any (a : Option Addr) (c hi : Nat) (xs : List Int) (w : World) (h : Ints .i64 w hi a xs) :
    Calls Try.prog 50 #[.slice a xs.length c] w fun e w' => e = .returned (.bool (xs.all isW)) ∧ w = w' := by
  have hg := Lib.hid (hasBad_any a c hi xs w h)
  clear h
  generalize xs.all isW = B at hg ⊢
  go_enter Try.func50, Try.ntmps50
  go_wp2_with (first | (go_at_call 65; refine hg.out.mono ?_; rintro e w' ⟨rfl, rfl⟩))
  go_ret
  exact ⟨by first | rfl | simp, rfl⟩
theorem make_wordsV (n : Nat) (hn : n ≤ 17592186044416) (w : World) : (Instr.makeSlice 26 (.int .i64 (n : Int)) (.int .i64 (n : Int))).run Try.prog w = .ok (.slice (some ⟨w.heap.size, 0, none⟩) n n) (w.alloc (.cells (madeCells #[Value.int .i64 0] n) 2)) := by
  obtain ⟨i, hi, hz0, hz1, hz2⟩ := info_parts infoI64
  have hr := run_make (P := Try.prog) w 26 2 i (.int .i64 0) Try.underlying26 hi hz0 .i64 .i64 n n (by omega) (Int.le_refl _) (by rw [hz2]; omega) (by omega)
  simp only [Int.toNat_natCast, hz1, Nat.mul_one, Value.cells] at hr
  exact hr
theorem madeRowV (w : World) (base n : Nat) (hb : base ≤ w.heap.size) (hn : n ≤ 17592186044416) : (w.alloc (.cells (madeCells #[Value.int .i64 0] n) 2)).ownsRow base 2 1 (.slice (some ⟨w.heap.size, 0, none⟩) n n) n (List.replicate n (.int .i64 0)) := by
  have row := World.ownsRow_lit (base := base) (e := 2) (size := 1) w (madeCells #[Value.int .i64 0] n) n hb (by unfold maxLen; omega) (by rw [size_madeCells, Nat.mul_one])
  rw [made_zeros, List.map_replicate] at row
  exact row
/-- A tensor of two rows of one's own. -/
def IsTen2 (base : Nat) (sh : List Int) (n : Nat) (xs : List Value) (u : Value) (W : World) : Prop := ∃ a c a' c', u = .agg #[.slice a sh.length c, .slice a' n c'] ∧ W.ownsRow base 3 1 (.slice a sh.length c) sh.length (sh.map (Value.int .i64)) ∧ W.ownsRow base 2 1 (.slice a' n c') n xs
theorem isTen2_carries (base : Nat) (sh : List Int) (n : Nat) (xs : List Value) : Carries (IsTen2 base sh n xs) := fun u w w' ⟨a, c, a', c', h1, h2, h3⟩ hb => ⟨a, c, a', c', h1, own_below h2 hb (Nat.le_refl _), own_below h3 hb (Nat.le_refl _)⟩
/-- A tensor and an error, handed back. -/
def RetTV (w : World) (sh ys : List Int) (z : Int) (e : Ending) (w' : World) : Prop :=
  ∃ a c b d, e = .returned (.tuple #[.agg #[.slice a sh.length c, .slice b ys.length d], .int .i64 z]) ∧ Fr w.heap.size w w' [] [] [⟨3, .slice a sh.length c, sh.length, sh.map (Value.int .i64)⟩, ⟨2, .slice b ys.length d, ys.length, ys.map (Value.int .i64)⟩] []
theorem retTV_none {w w' : World} {z : Int} {B : List (Nat × List Value)} {I : List (IntKind × Option Addr × List Int)} (h : Fr w.heap.size w w' B I [] []) : RetTV w [] [] z (.returned (.tuple #[.agg #[.slice none 0 0, .slice none 0 0], .int .i64 z])) w' :=
  ⟨none, 0, none, 0, rfl, ((h.rows.addNil _).addNil _)⟩

set_option maxRecDepth 100000 in
set_option maxHeartbeats 4000000 in
theorem vcopy_bad (a b ad : Option Addr) (c d cd : Nat) (sh st data : List Int) (off : Int) (w : World) (h : Ints .i64 w w.heap.size a sh) (h2 : Ints .i64 w w.heap.size b st) (h3 : Ints .i64 w w.heap.size ad data) (hbad : ¬ (viewB sh st off data.length = true ∧ data.all isW = true)) :
    Calls Try.prog 16 #[.agg #[.slice a sh.length c, .slice b st.length d, .int .i64 off], .slice ad data.length cd] w (RetTV w [] [] 1) := by
  have hgv := fun W (h : Ints .i64 W W.heap.size a sh) (h2 : Ints .i64 W W.heap.size b st) => vgood_any a b c d W.heap.size sh st off (data.length : Int) W h h2 (Nat.le_refl _)
  have hl1 := h.len
  have hl2 := h2.len
  have hl3 := h3.len
  have HA := Lib.hid h
  have HB := Lib.hid h2
  have HD := Lib.hid h3
  clear h h2 h3
  cases hv : viewB sh st off data.length with
  | false =>
    rw [hv] at hgv
    clear hv hbad
    go_enter Try.func16, Try.ntmps16
    have F1 := Lib.hid ((((Fr.start (w := w) (I := [(.i64, a, sh), (.i64, b, st), (.i64, ad, data)]) (by intro p hp; simp at hp; rcases hp with rfl | rfl | rfl; exact HA.out; exact HB.out; exact HD.out)).box1 (b := w.heap.size) (by simp) [.slice a sh.length c, .slice b st.length d, .int .i64 off] 25).box1 (b := w.heap.size + 1) (by simp) [.slice ad data.length cd] 26).box1 (b := w.heap.size + 1 + 1) (by simp) [.slice none 0 0, .slice none 0 0] 28)
    simp only [List.nil_append, List.cons_append] at F1
    go_upto_region 1 with fail
    obtain ⟨W0, hW0⟩ : ∃ W0, (((w.alloc (.cells #[.slice a sh.length c, .slice b st.length d, .int .i64 off] 25)).alloc (.cells #[.slice ad data.length cd] 26)).alloc (.cells #[.slice none 0 0, .slice none 0 0] 28)) = W0 := ⟨_, rfl⟩
    rw [hW0] at F1 ⊢
    clear hW0
    have c0_0 := F1.out.c 0 0 rfl rfl
    have c0_1 := F1.out.c 0 1 rfl rfl
    have c0_2 := F1.out.c 0 2 rfl rfl
    have c1_0 := F1.out.c 1 0 rfl rfl
    have c2_0 := F1.out.c 2 0 rfl rfl
    have c2_1 := F1.out.c 2 1 rfl rfl
    go_wp2_with (go_at_call 49; refine (hgv _ (F1.out.lw 0 rfl) (F1.out.lw 1 rfl)).mono ?_; rintro e w1 ⟨rfl, hb⟩; have F2 := Lib.hid (F1.out.next hb); clear hb c0_0 c0_1 c0_2 c1_0 c2_0 c2_1; have d0_0 := F2.out.c 0 0 rfl rfl; have d0_1 := F2.out.c 0 1 rfl rfl; have d0_2 := F2.out.c 0 2 rfl rfl; have d1_0 := F2.out.c 1 0 rfl rfl; have d2_0 := F2.out.c 2 0 rfl rfl; have d2_1 := F2.out.c 2 1 rfl rfl; have df2_0 := F2.out.f 2 0 rfl rfl; have df2_1 := F2.out.f 2 1 rfl rfl)
    (try simp only [Exit.noGoto, Exit.inBlock, Exit.then])
    have FZ := F2.out.set 2 rfl (by simp) [.slice none 0 0, .slice none 0 0] rfl
    simp only [setL, Nat.reduceAdd, List.set_cons_zero, List.set_cons_succ] at FZ
    have z0 := FZ.c 2 0 rfl rfl
    have z1 := FZ.c 2 1 rfl rfl
    refine bodyPost_ret (v := .tuple #[.agg #[.slice none 0 0, .slice none 0 0], .int .i64 1]) ?_ rfl (retTV_none FZ)
    rw [results_ctV rfl]
    go_simp
  | true =>
    have hw : data.all isW = false := by
      cases hq : data.all isW with
      | false => rfl
      | true => exact absurd ⟨hv, hq⟩ hbad
    rw [hv] at hgv
    have hvw := fun W (h : Ints .i64 W W.heap.size ad data) => vwords_any ad cd _ data W h
    rw [hw] at hvw
    clear hv hw hbad
    go_enter Try.func16, Try.ntmps16
    have F1 := Lib.hid ((((Fr.start (w := w) (I := [(.i64, a, sh), (.i64, b, st), (.i64, ad, data)]) (by intro p hp; simp at hp; rcases hp with rfl | rfl | rfl; exact HA.out; exact HB.out; exact HD.out)).box1 (b := w.heap.size) (by simp) [.slice a sh.length c, .slice b st.length d, .int .i64 off] 25).box1 (b := w.heap.size + 1) (by simp) [.slice ad data.length cd] 26).box1 (b := w.heap.size + 1 + 1) (by simp) [.slice none 0 0, .slice none 0 0] 28)
    simp only [List.nil_append, List.cons_append] at F1
    go_upto_region 1 with fail
    obtain ⟨W0, hW0⟩ : ∃ W0, (((w.alloc (.cells #[.slice a sh.length c, .slice b st.length d, .int .i64 off] 25)).alloc (.cells #[.slice ad data.length cd] 26)).alloc (.cells #[.slice none 0 0, .slice none 0 0] 28)) = W0 := ⟨_, rfl⟩
    rw [hW0] at F1 ⊢
    clear hW0
    have c0_0 := F1.out.c 0 0 rfl rfl
    have c0_1 := F1.out.c 0 1 rfl rfl
    have c0_2 := F1.out.c 0 2 rfl rfl
    have c1_0 := F1.out.c 1 0 rfl rfl
    have c2_0 := F1.out.c 2 0 rfl rfl
    have c2_1 := F1.out.c 2 1 rfl rfl
    go_wp2_with (first | (go_at_call 49; refine (hgv _ (F1.out.lw 0 rfl) (F1.out.lw 1 rfl)).mono ?_; rintro e w1 ⟨rfl, hb⟩; have F2 := Lib.hid (F1.out.next hb); clear hb c0_0 c0_1 c0_2 c1_0 c2_0 c2_1; have d0_0 := F2.out.c 0 0 rfl rfl; have d0_1 := F2.out.c 0 1 rfl rfl; have d0_2 := F2.out.c 0 2 rfl rfl; have d1_0 := F2.out.c 1 0 rfl rfl; have d2_0 := F2.out.c 2 0 rfl rfl; have d2_1 := F2.out.c 2 1 rfl rfl; have df2_0 := F2.out.f 2 0 rfl rfl; have df2_1 := F2.out.f 2 1 rfl rfl) | (go_at_call 50; refine (hvw _ (F2.out.lw 2 rfl)).mono ?_; rintro e w' ⟨rfl, rfl⟩; skip))
    (try simp only [Exit.noGoto, Exit.inBlock, Exit.then])
    have FZ := F2.out.set 2 rfl (by simp) [.slice none 0 0, .slice none 0 0] rfl
    simp only [setL, Nat.reduceAdd, List.set_cons_zero, List.set_cons_succ] at FZ
    have z0 := FZ.c 2 0 rfl rfl
    have z1 := FZ.c 2 1 rfl rfl
    refine bodyPost_ret (v := .tuple #[.agg #[.slice none 0 0, .slice none 0 0], .int .i64 1]) ?_ rfl (retTV_none FZ)
    rw [results_ctV rfl]
    go_simp
attribute [local go_sem] Oper.semAt_some
set_option maxRecDepth 100000 in
set_option maxHeartbeats 4000000 in
theorem vcopy_good (a b ad : Option Addr) (c d cd : Nat) (sh st data : List Int) (off : Int) (w : World) (h : Ints .i64 w w.heap.size a sh) (h2 : Ints .i64 w w.heap.size b st) (h3 : Ints .i64 w w.heap.size ad data) (hv : viewB sh st off data.length = true) (hw : data.all isW = true) :
    Calls Try.prog 16 #[.agg #[.slice a sh.length c, .slice b st.length d, .int .i64 off], .slice ad data.length cd] w (RetTV w sh (wordsV sh st off data) 0) := by
  have hgv := fun W (h : Ints .i64 W W.heap.size a sh) (h2 : Ints .i64 W W.heap.size b st) => vgood_any a b c d W.heap.size sh st off (data.length : Int) W h h2 (Nat.le_refl _)
  have hl1 := h.len
  have hl2 := h2.len
  have hl3 := h3.len
  have HA := Lib.hid h
  have HB := Lib.hid h2
  have HD := Lib.hid h3
  clear h h2 h3
  have hv0 := viewB_iff.1 hv
  obtain ⟨hP1, hP2⟩ := goodB_prod hv0.1
  have h4 := (goodB_iff.1 hv0.1).1
  have hN64 := hv0.2.2.2.1
  have HV := Lib.hid hv
  have HG := Lib.hid hv0.1
  have HW := Lib.hid hw
  rw [hv] at hgv
  have hvw := fun W (h : Ints .i64 W W.heap.size ad data) => vwords_any ad cd _ data W h
  rw [hw] at hvw
  have hsz := fun W (h : Ints .i64 W W.heap.size a sh) => size_any a c _ sh W h HG.out
  obtain ⟨N, hN⟩ : ∃ N : Nat, prodI sh = N := ⟨(prodI sh).toNat, by omega⟩
  rw [hN] at hsz
  have hN2 : N ≤ 65536 := by omega
  have HN := Lib.hid hN
  clear hv hw hv0 hP1 hP2 hN
  refine (callsIn_wide (n := 20)).1 ?_
  refine callsIn_of_wp_marks Try.func16 rfl trivial ?_ rfl
  simp only [Try.ntmps16, List.size_toArray, List.length_cons, List.length_nil, Nat.reduceAdd, Nat.reduceSub, Array.replicate_succ, Array.replicate_zero, List.push_toArray, List.append_toArray, List.nil_append, List.cons_append]
  refine wpIn_wide.2 ?_
  have F1 := Lib.hid ((((Fr.start (w := w) (I := [(.i64, a, sh), (.i64, b, st), (.i64, ad, data)]) (by intro p hp; simp at hp; rcases hp with rfl | rfl | rfl; exact HA.out; exact HB.out; exact HD.out)).box1 (b := w.heap.size) (by simp) [.slice a sh.length c, .slice b st.length d, .int .i64 off] 25).box1 (b := w.heap.size + 1) (by simp) [.slice ad data.length cd] 26).box1 (b := w.heap.size + 1 + 1) (by simp) [.slice none 0 0, .slice none 0 0] 28)
  simp only [List.nil_append, List.cons_append] at F1
  go_upto_region 1 with fail
  obtain ⟨W0, hW0⟩ : ∃ W0, (((w.alloc (.cells #[.slice a sh.length c, .slice b st.length d, .int .i64 off] 25)).alloc (.cells #[.slice ad data.length cd] 26)).alloc (.cells #[.slice none 0 0, .slice none 0 0] 28)) = W0 := ⟨_, rfl⟩
  rw [hW0] at F1 ⊢
  clear hW0
  have c0_0 := F1.out.c 0 0 rfl rfl
  have c0_1 := F1.out.c 0 1 rfl rfl
  have c0_2 := F1.out.c 0 2 rfl rfl
  have c1_0 := F1.out.c 1 0 rfl rfl
  have c2_0 := F1.out.c 2 0 rfl rfl
  have c2_1 := F1.out.c 2 1 rfl rfl
  go_upto_region 3 with (first | (go_at_call 49; refine (hgv _ (F1.out.lw 0 rfl) (F1.out.lw 1 rfl)).mono ?_; rintro e w1 ⟨rfl, hb⟩; have F2 := Lib.hid (F1.out.next hb); clear hb c0_0 c0_1 c0_2 c1_0 c2_0 c2_1; have d0_0 := F2.out.c 0 0 rfl rfl; have d0_1 := F2.out.c 0 1 rfl rfl; have d0_2 := F2.out.c 0 2 rfl rfl; have d1_0 := F2.out.c 1 0 rfl rfl; have d2_0 := F2.out.c 2 0 rfl rfl; have d2_1 := F2.out.c 2 1 rfl rfl; have df2_0 := F2.out.f 2 0 rfl rfl; have df2_1 := F2.out.f 2 1 rfl rfl) | (go_at_call 50; refine (hvw _ (F2.out.lw 2 rfl)).mono ?_; rintro e w' ⟨rfl, rfl⟩; skip))
  clear F1 d0_0 d0_1 d0_2 d1_0 d2_0 d2_1 df2_0 df2_1
  have hmk := make_wordsV N (by omega)
  obtain ⟨W1, rfl⟩ : ∃ W1 : World, W1 = w1 := ⟨_, rfl⟩
  refine wp_region_parts2 (w := W1) 9 1 none [8] [(fun u _ => u = .pointer (some ⟨w.heap.size, 0, none⟩)), (fun u _ => u = .slice a sh.length c), ((IsRow W1.heap.size 3 sh.length (sh.map (Value.int .i64)))), (fun u _ => u = .pointer (some ⟨w.heap.size, 0, none⟩)), (fun u _ => u = .slice a sh.length c), (fun u _ => u = .int .i64 (N : Int)), ((IsRow W1.heap.size 2 N (List.replicate N (.int .i64 0)))), ((IsTen2 W1.heap.size sh N (List.replicate N (.int .i64 0)))), ((IsObj W1.heap.size [.slice none 0 0, .slice none 0 0] 28))] [some 20, some 21, some 22, some 23, some 24, some 25, some 26, some 27, some 6, none] #[true, true, true, true, true, true, true, true, true, false] #[true, true, true, true, true, true, true, true, true, false] (by kernel_rfl) rfl (by kernel_rfl) (by kernel_rfl) rfl (by kernel_rfl) (by kernel_rfl) (.cons (carries_eq _) (.cons (carries_eq _) (.cons (isRow_carries _ _ _ _) (.cons (carries_eq _) (.cons (carries_eq _) (.cons (carries_eq _) (.cons (isRow_carries _ _ _ _) (.cons (isTen2_carries _ _ _ _) (.cons (isObj_carries _ _ _) .nil))))))))) (fun vs b hvl hvb => ?_)
  obtain ⟨x0, x1, x2, x3, x4, x5, x6, x7, x8, x9, rfl⟩ : ∃ x0 x1 x2 x3 x4 x5 x6 x7 x8 x9, vs = [x0, x1, x2, x3, x4, x5, x6, x7, x8, x9] := lst10 hvl
  clear hvl
  simp only [putAll, Act.put, List.setIfInBounds_toArray, List.set_cons_zero, List.set_cons_succ] at hvb
  subst hvb
  refine ⟨(.snoc (.snoc (.snoc (.snoc (.snoc (.snoc (.snoc (.snoc (.snoc .zero (PartOb.intro (d := (some 20)) (r := fun u _ => u = .pointer (some ⟨w.heap.size, 0, none⟩)) rfl rfl rfl rfl ?po3x0)) (PartOb.intro (d := (some 21)) (r := fun u _ => u = .slice a sh.length c) rfl rfl rfl rfl ?po3x1)) (PartOb.intro (d := (some 22)) (r := (IsRow W1.heap.size 3 sh.length (sh.map (Value.int .i64)))) rfl rfl rfl rfl ?po3x2)) (PartOb.intro (d := (some 23)) (r := fun u _ => u = .pointer (some ⟨w.heap.size, 0, none⟩)) rfl rfl rfl rfl ?po3x3)) (PartOb.intro (d := (some 24)) (r := fun u _ => u = .slice a sh.length c) rfl rfl rfl rfl ?po3x4)) (PartOb.intro (d := (some 25)) (r := fun u _ => u = .int .i64 (N : Int)) rfl rfl rfl rfl ?po3x5)) (PartOb.intro (d := (some 26)) (r := (IsRow W1.heap.size 2 N (List.replicate N (.int .i64 0)))) rfl rfl rfl rfl ?po3x6)) (PartOb.intro (d := (some 27)) (r := (IsTen2 W1.heap.size sh N (List.replicate N (.int .i64 0)))) rfl rfl rfl rfl ?po3x7)) (PartOb.made (d := (some 6)) (r := (IsObj W1.heap.size [.slice none 0 0, .slice none 0 0] 28)) rfl rfl rfl ?po3x8)), ?pend3, ?pfl3⟩
  case po3x0 =>
    intro w1 hb1 hd KK hK
    clear hd
    simp only [Act.put, List.setIfInBounds_toArray, List.set_cons_zero, List.set_cons_succ] at hK
    go_simp
    first | exact hK.out _ _ (Below.refl _ _) rfl | (have hk := hK.out _ _ (Below.refl _ _) rfl; revert hk; go_simp)
  case po3x1 =>
    intro w1 hb1 hd KK hK
    have d0 : x0 = .pointer (some ⟨w.heap.size, 0, none⟩) := hd 0 (by kernel_rfl)
    clear hd
    subst d0
    have hF := F2.out.next hb1
    have k0 := hF.c 0 0 rfl rfl
    have k1 := hF.c 0 1 rfl rfl
    have k2 := hF.c 0 2 rfl rfl
    simp only [Act.put, List.setIfInBounds_toArray, List.set_cons_zero, List.set_cons_succ] at hK
    go_simp
    first | exact hK.out _ _ (Below.refl _ _) rfl | (have hk := hK.out _ _ (Below.refl _ _) rfl; revert hk; go_simp)
  case po3x2 =>
    intro w1 hb1 hd KK hK
    have d1 : x1 = .slice a sh.length c := hd 1 (by kernel_rfl)
    clear hd
    subst d1
    simp only [Act.put, List.setIfInBounds_toArray, List.set_cons_zero, List.set_cons_succ] at hK
    go_simp
    go_at_call 51
    refine (clone_any a c sh w1 ((F2.out.next hb1).lw 0 rfl) (by omega)).mono ?_
    rintro e w2 ⟨v, rfl, hown, hb⟩
    obtain ⟨a2, c2, rfl, _⟩ := own_shape hown
    (try go_wp2_with fail)
    first | exact hK.out _ _ hb ⟨a2, c2, rfl, own_mono hown hb1.size⟩ | (have hk := hK.out _ _ hb ⟨a2, c2, rfl, own_mono hown hb1.size⟩; revert hk; go_simp)
  case po3x3 =>
    intro w1 hb1 hd KK hK
    clear hd
    simp only [Act.put, List.setIfInBounds_toArray, List.set_cons_zero, List.set_cons_succ] at hK
    go_simp
    first | exact hK.out _ _ (Below.refl _ _) rfl | (have hk := hK.out _ _ (Below.refl _ _) rfl; revert hk; go_simp)
  case po3x4 =>
    intro w1 hb1 hd KK hK
    have d3 : x3 = .pointer (some ⟨w.heap.size, 0, none⟩) := hd 3 (by kernel_rfl)
    clear hd
    subst d3
    have hF := F2.out.next hb1
    have k0 := hF.c 0 0 rfl rfl
    have k1 := hF.c 0 1 rfl rfl
    have k2 := hF.c 0 2 rfl rfl
    simp only [Act.put, List.setIfInBounds_toArray, List.set_cons_zero, List.set_cons_succ] at hK
    go_simp
    first | exact hK.out _ _ (Below.refl _ _) rfl | (have hk := hK.out _ _ (Below.refl _ _) rfl; revert hk; go_simp)
  case po3x5 =>
    intro w1 hb1 hd KK hK
    have d2 : (IsRow W1.heap.size 3 sh.length (sh.map (Value.int .i64))) x2 w1 := hd 2 (by kernel_rfl)
    have d4 : x4 = .slice a sh.length c := hd 4 (by kernel_rfl)
    clear hd
    obtain ⟨a2, c2, rfl, hO2⟩ := d2
    subst d4
    simp only [Act.put, List.setIfInBounds_toArray, List.set_cons_zero, List.set_cons_succ] at hK
    go_simp
    go_at_call 52
    refine (hsz _ ((F2.out.next hb1).lw 0 rfl)).mono ?_
    rintro e w' ⟨rfl, rfl⟩
    (try go_wp2_with fail)
    first | exact hK.out _ _ (Below.refl _ _) rfl | (have hk := hK.out _ _ (Below.refl _ _) rfl; revert hk; go_simp)
  case po3x6 =>
    intro w1 hb1 hd KK hK
    have d5 : x5 = .int .i64 (N : Int) := hd 5 (by kernel_rfl)
    clear hd
    subst d5
    simp only [Act.put, List.setIfInBounds_toArray, List.set_cons_zero, List.set_cons_succ] at hK
    go_simp
    first | exact hK.out _ _ ((Below.refl _ _).alloc (Nat.le_refl _) _) ⟨_, _, rfl, madeRowV w1 _ N hb1.size (by omega)⟩ | (have hk := hK.out _ _ ((Below.refl _ _).alloc (Nat.le_refl _) _) ⟨_, _, rfl, madeRowV w1 _ N hb1.size (by omega)⟩; revert hk; go_simp)
  case po3x7 =>
    intro w1 hb1 hd KK hK
    have d2 : (IsRow W1.heap.size 3 sh.length (sh.map (Value.int .i64))) x2 w1 := hd 2 (by kernel_rfl)
    have d6 : (IsRow W1.heap.size 2 N (List.replicate N (.int .i64 0))) x6 w1 := hd 6 (by kernel_rfl)
    clear hd
    obtain ⟨a2, c2, rfl, hO2⟩ := d2
    obtain ⟨a6, c6, rfl, hO6⟩ := d6
    simp only [Act.put, List.setIfInBounds_toArray, List.set_cons_zero, List.set_cons_succ] at hK
    go_simp
    first | exact hK.out _ _ (Below.refl _ _) ⟨_, _, _, _, rfl, hO2, hO6⟩ | (have hk := hK.out _ _ (Below.refl _ _) ⟨_, _, _, _, rfl, hO2, hO6⟩; revert hk; go_simp)
  case po3x8 =>
    intro w1 hb1 hd KK hK
    clear hd
    simp only [Act.put, List.setIfInBounds_toArray, List.set_cons_zero, List.set_cons_succ] at hK
    go_simp
    first | exact hK.out _ ((Below.refl _ _).alloc (Nat.le_refl _) _) (by simp) (isObj_new _ _ _ w1 hb1.size) | (have hk := hK.out _ ((Below.refl _ _).alloc (Nat.le_refl _) _) (by simp) (isObj_new _ _ _ w1 hb1.size); revert hk; go_simp)
  case pfl3 => (intro f hf; cases hf)
  case pend3 =>
  intro w1 hb1 hR hD
  have d0 : x0 = .pointer (some ⟨w.heap.size, 0, none⟩) := hR 0 (by decide)
  have d1 : x1 = .slice a sh.length c := hR 1 (by decide)
  have d2 : (IsRow W1.heap.size 3 sh.length (sh.map (Value.int .i64))) x2 w1 := hR 2 (by decide)
  have d3 : x3 = .pointer (some ⟨w.heap.size, 0, none⟩) := hR 3 (by decide)
  have d4 : x4 = .slice a sh.length c := hR 4 (by decide)
  have d5 : x5 = .int .i64 (N : Int) := hR 5 (by decide)
  have d6 : (IsRow W1.heap.size 2 N (List.replicate N (.int .i64 0))) x6 w1 := hR 6 (by decide)
  have d7 : (IsTen2 W1.heap.size sh N (List.replicate N (.int .i64 0))) x7 w1 := hR 7 (by decide)
  have d8 : (IsObj W1.heap.size [.slice none 0 0, .slice none 0 0] 28) x8 w1 := hR 8 (by decide)
  clear hR hD
  subst d0
  subst d1
  obtain ⟨a2, c2, rfl, hO2⟩ := d2
  subst d3
  subst d4
  subst d5
  obtain ⟨a6, c6, rfl, hO6⟩ := d6
  obtain ⟨a2, c2, a6, c6, rfl, hO2, hO6⟩ := d7
  obtain ⟨b8, rfl, hle8, hob8⟩ := d8
  refine wpAny_ready (rs := [9]) (by kernel_rfl) (by simp) (AllReady.cons rfl (fun KK hK => ?_) AllReady.nil)
  have F3 := F2.out.join2 (Fr.boxRows hb1 hle8 hob8 hO2 hO6 (by decide) (by decide) (by decide))
  simp only [List.cons_append, List.nil_append, List.append_nil] at F3
  have t3_0 := F3.c 3 0 rfl rfl
  have t3_1 := F3.c 3 1 rfl rfl
  have tf3_0 := F3.f 3 0 rfl rfl
  have tf3_1 := F3.f 3 1 rfl rfl
  go_simp
  refine hK _ _ ?_
  clear hK KK
  try simp only [putAll, Act.put, List.setIfInBounds_toArray, List.set_cons_zero, List.set_cons_succ]
  refine wpAny_done (by kernel_rfl) ?_ _
  obtain ⟨a0, c0, he, hsh⟩ := own_shape (F3.r 1 rfl)
  simp only [Value.slice.injEq] at he
  obtain ⟨rfl, _, rfl⟩ := he
  obtain ⟨g, rfl, _⟩ := hsh.resolve_left (by show ¬ N = 0; have := goodB_prod HG.out; have := HN.out; omega)
  obtain ⟨WV, hWV⟩ : ∃ x, wordsV sh st off data = x := ⟨_, rfl⟩
  have hWL : WV.length = N := by rw [← hWV, wordsV_len]; have := HN.out; omega
  have HWL := Lib.hid hWL
  have HWV := Lib.hid hWV
  have hz := frontL_zero WV
  rw [hWL] at hz
  have hz2 : List.replicate N (Value.int .i64 0) = (frontL WV 0).map (Value.int .i64) := by rw [hz]; simp
  rw [hz2] at F3
  have F4 := Lib.hid (F3.set 3 rfl (by simp) [.slice a2 sh.length c2, .slice (some ⟨g, 0, none⟩) N c6] rfl)
  simp only [List.set_cons_zero, List.set_cons_succ] at F4
  obtain ⟨W4, hW4⟩ : ∃ W4, setL w1 b8 0 [.slice a2 sh.length c2, .slice (some ⟨g, 0, none⟩) N c6] = W4 := ⟨_, rfl⟩
  simp only [setL, Nat.reduceAdd] at hW4 F4
  rw [hW4] at F4 ⊢
  rw [hWV]
  clear hW4 F3 F2 hz hz2 hWL hWV hO2 hO6 hle8 hob8 hb1 t3_0 t3_1 tf3_0 tf3_1 hgv hvw hsz hmk
  have e0_0 := F4.out.c 0 0 rfl rfl
  have e0_1 := F4.out.c 0 1 rfl rfl
  have e0_2 := F4.out.c 0 2 rfl rfl
  have hpl := fun W => Lib.hid (places_any a b sh.length c st.length d off W)
  go_upto_block 0 with (go_at_call 53; refine (hpl _).out.mono ?_; rintro e w8 ⟨rfl, rfl⟩)
  obtain ⟨P, hP⟩ : ∃ P, W4.heap.size = P := ⟨_, rfl⟩
  rw [hP]
  have F5 := Lib.hid (F4.out.box1 (b := P) hP [.slice a sh.length c, .slice b st.length d, .int .i64 off] 25)
  simp only [List.nil_append, List.cons_append] at F5
  have hWz : (W4.alloc (.cells #[.slice a sh.length c, .slice b st.length d, .int .i64 off] 25)).heap.size = P + 1 := by simp [hP]
  obtain ⟨W5, hW5⟩ : ∃ W5, (W4.alloc (.cells #[.slice a sh.length c, .slice b st.length d, .int .i64 off] 25)) = W5 := ⟨_, rfl⟩
  rw [hW5] at F5 hWz ⊢
  clear hW5 hP F4 hpl e0_0 e0_1 e0_2
  go_wp2
  refine wpIn_wide.1 (wpIn_rangeFunc_any (n := 20) rfl (by omega) (gf := 68) (lb := #[.pointer (some ⟨P, 0, none⟩)]) rfl trivial (enters_of Try.func68 (by kernel_rfl) rfl) (P + 1) hWz
    (fun W2 => ∃ o, Fr w.heap.size w W2 [(w.heap.size, [.slice a sh.length c, .slice b st.length d, .int .i64 off]), (w.heap.size + 1, [.slice ad data.length cd]), (w.heap.size + 1 + 1, [.slice none 0 0, .slice none 0 0]), (b8, [.slice a2 sh.length c2, .slice (some ⟨g, 0, none⟩) N c6]), (P, [.slice a sh.length c, .slice b st.length d, .int .i64 off])] [(.i64, a, sh), (.i64, b, st), (.i64, ad, data)] [⟨3, .slice a2 sh.length c2, sh.length, sh.map (Value.int .i64)⟩, ⟨2, .slice (some ⟨g, 0, none⟩) N c6, N, (frontL WV N).map (Value.int .i64)⟩] [(P + 1, .deferred (some [])), (P + 1 + 1, o)]) (fun _ _ => False) ?hcall ?hdone (fun _ _ _ _ h => h.elim))
  case hcall =>
    intro fn R hfn hR
    have HR := Lib.hid hR
    clear hR
    have F6 := Lib.hid ((F5.out.recM hWz (.deferred (some [])) rfl).recM (b := P + 1 + 1) (by simp [hWz]) (.loop (R .ready none)) rfl)
    simp only [List.nil_append, List.cons_append] at F6
    have hW3s : ((W5.alloc (.deferred (some []))).alloc (.loop (R .ready none))).heap.size = P + 3 := by simp [hWz]
    obtain ⟨W6, hW6⟩ : ∃ W6, ((W5.alloc (.deferred (some []))).alloc (.loop (R .ready none))) = W6 := ⟨_, rfl⟩
    rw [hW6] at F6 hW3s ⊢
    have H0 := Lib.hid (FrS.of F6.out (by simp [hW3s]))
    rw [hW3s] at H0
    clear hW6 F5 F6
    refine (placesIter 19 (by omega) (P + 1 + 1) P N (P + 3) a b c d sh st off (data.length : Int) W6 hW3s (fun k V => FrS (P + 3) w.heap.size w V [(w.heap.size, [.slice a sh.length c, .slice b st.length d, .int .i64 off]), (w.heap.size + 1, [.slice ad data.length cd]), (w.heap.size + 1 + 1, [.slice none 0 0, .slice none 0 0]), (b8, [.slice a2 sh.length c2, .slice (some ⟨g, 0, none⟩) N c6]), (P, [.slice a sh.length c, .slice b st.length d, .int .i64 off])] [(.i64, a, sh), (.i64, b, st), (.i64, ad, data)] [⟨3, .slice a2 sh.length c2, sh.length, sh.map (Value.int .i64)⟩, ⟨2, .slice (some ⟨g, 0, none⟩) N c6, N, (frontL WV k).map (Value.int .i64)⟩] [(P + 1, .deferred (some [])), (P + 1 + 1, .loop (R .ready none))]) (fun _ => False) HV.out HN.out (fun k W1 W2 h hb => h.below hb) (fun _ _ h => h.elim) (fun _ h => h.elim) ?hJB ?hY H0.out).mono ?post
    case post =>
      rintro e V ⟨hv, h | h⟩
      · exact ⟨hv, .inl ⟨⟨_, h.fr⟩, h.fr.m 1 rfl⟩⟩
      · exact h.elim
    case hJB =>
      intro k V h
      exact ⟨h.sz, (h.fr.box _ (List.mem_of_getElem? (i := 4) rfl)).1, (h.fr.l 0 rfl).mono h.lS, (h.fr.l 1 rfl).mono h.lS⟩
    case hY =>
      intro k V1 hk hj
      refine yieldAt_roundR hfn HR.out (hj.fr.m 1 rfl) rfl ?_
      have F7 := Lib.hid (hj.fr.putM 1 rfl (.loop (R .busy none)) rfl)
      simp only [List.set_cons_zero, List.set_cons_succ] at F7
      have HJ := Lib.hid hj
      have HK := Lib.hid (Kept.putObj (P + 3) V1 (P + 1 + 1) (.loop (R .busy none)) (by omega))
      clear hj hfn H0
      gi_wp2
      refine ⟨HJ.out.fr.m 1 rfl, ?_⟩
      obtain ⟨V, hV⟩ : ∃ V, V1.putObj (P + 1 + 1) (.loop (R .busy none)) = V := ⟨_, rfl⟩
      rw [hV] at F7 HK ⊢
      clear hV
      have hat := atV_bound (n := (k : Int)) HV.out
      have hwg := wordsV_get sh st off data (k := k) (by have := HN.out; omega)
      rw [HWV.out] at hwg
      obtain ⟨q, hq⟩ : ∃ q : Nat, atV sh st off k = q := ⟨(atV sh st off k).toNat, by omega⟩
      rw [hq] at hat hwg ⊢
      rw [Int.toNat_natCast] at hwg
      have hqd : q < data.length := by omega
      obtain ⟨gd, od, rfl, hlb, hcd⟩ := (F7.out.l 2 rfl).cell q hqd
      have hwf := (F7.out.l 2 rfl).wf
      obtain ⟨x, hx⟩ : ∃ x, data[q]?.getD 0 = x := ⟨_, rfl⟩
      rw [hx] at hcd hwg
      have HCD := Lib.hid hcd
      have HWG := Lib.hid hwg
      have hget : ((frontL WV k).map (Value.int .i64))[k]? = some (.int .i64 ((frontL WV k)[k]?.getD 0)) := by
        have hl : (frontL WV k).length = N := by rw [frontL_lenV _ _ (by rw [HWL.out]; omega), HWL.out]
        rw [List.getElem?_map, List.getElem?_eq_getElem (by omega)]
        rfl
      have HGET := Lib.hid hget
      clear hat hwg hq hcd hget hx hwf
      (repeat gi_step)
      refine wpIn_region_parts2 (w := V) 8 1 none [] [(fun u _ => u = .pointer (some ⟨b8, 1, none⟩)), (fun u _ => u = .slice (some ⟨g, 0, none⟩) N c6), (fun u _ => u = .int .i64 (k : Int)), (fun u _ => u = .slice (some ⟨gd, od, none⟩) data.length cd), (fun u _ => u = .int .i64 (q : Int)), (fun u _ => u = .pointer (some ⟨gd, od + q, none⟩)), (fun u _ => u = .int .i64 x), (fun u _ => u = .pointer (some ⟨g, k, none⟩))] [some 32, some 33, some 34, some 35, some 36, some 37, some 38, some 39, none] #[true, true, true, true, true, true, true, true, false] #[true, true, true, true, true, true, true, true, false] (by kernel_rfl) rfl (by kernel_rfl) (by kernel_rfl) rfl (by kernel_rfl) (by kernel_rfl) (.cons (carries_eq _) (.cons (carries_eq _) (.cons (carries_eq _) (.cons (carries_eq _) (.cons (carries_eq _) (.cons (carries_eq _) (.cons (carries_eq _) (.cons (carries_eq _) .nil)))))))) (fun vs b hvl hvb => ?_)
      obtain ⟨x0, x1, x2, x3, x4, x5, x6, x7, x8, rfl⟩ : ∃ x0 x1 x2 x3 x4 x5 x6 x7 x8, vs = [x0, x1, x2, x3, x4, x5, x6, x7, x8] := lst9 hvl
      clear hvl
      simp only [putAll, Act.put, List.setIfInBounds_toArray, List.set_cons_zero, List.set_cons_succ] at hvb
      subst hvb
      refine ⟨(.snoc (.snoc (.snoc (.snoc (.snoc (.snoc (.snoc (.snoc .zero (PartObIn.intro (d := (some 32)) (r := fun u _ => u = .pointer (some ⟨b8, 1, none⟩)) rfl rfl rfl rfl ?po7x0)) (PartObIn.intro (d := (some 33)) (r := fun u _ => u = .slice (some ⟨g, 0, none⟩) N c6) rfl rfl rfl rfl ?po7x1)) (PartObIn.intro (d := (some 34)) (r := fun u _ => u = .int .i64 (k : Int)) rfl rfl rfl rfl ?po7x2)) (PartObIn.intro (d := (some 35)) (r := fun u _ => u = .slice (some ⟨gd, od, none⟩) data.length cd) rfl rfl rfl rfl ?po7x3)) (PartObIn.intro (d := (some 36)) (r := fun u _ => u = .int .i64 (q : Int)) rfl rfl rfl rfl ?po7x4)) (PartObIn.intro (d := (some 37)) (r := fun u _ => u = .pointer (some ⟨gd, od + q, none⟩)) rfl rfl rfl rfl ?po7x5)) (PartObIn.intro (d := (some 38)) (r := fun u _ => u = .int .i64 x) rfl rfl rfl rfl ?po7x6)) (PartObIn.intro (d := (some 39)) (r := fun u _ => u = .pointer (some ⟨g, k, none⟩)) rfl rfl rfl rfl ?po7x7)), ?pend7, ?pfl7⟩
      case po7x0 =>
        intro w1 hb1 hd KK hK
        clear hd
        simp only [Act.put, List.setIfInBounds_toArray, List.set_cons_zero, List.set_cons_succ] at hK
        go_simp
        first | exact hK.out _ _ (Below.refl _ _) rfl | (have hk := hK.out _ _ (Below.refl _ _) rfl; revert hk; go_simp)
      case po7x1 =>
        intro w1 hb1 hd KK hK
        have d0 : x0 = .pointer (some ⟨b8, 1, none⟩) := hd 0 (by kernel_rfl)
        clear hd
        subst d0
        have hF := F7.out.next hb1
        have k1 := hF.c 3 1 rfl rfl
        simp only [Act.put, List.setIfInBounds_toArray, List.set_cons_zero, List.set_cons_succ] at hK
        go_simp
        first | exact hK.out _ _ (Below.refl _ _) rfl | (have hk := hK.out _ _ (Below.refl _ _) rfl; revert hk; go_simp)
      case po7x2 =>
        intro w1 hb1 hd KK hK
        clear hd
        simp only [Act.put, List.setIfInBounds_toArray, List.set_cons_zero, List.set_cons_succ] at hK
        go_simp
        first | exact hK.out _ _ (Below.refl _ _) rfl | (have hk := hK.out _ _ (Below.refl _ _) rfl; revert hk; go_simp)
      case po7x3 =>
        intro w1 hb1 hd KK hK
        clear hd
        have hF := F7.out.next hb1
        have k0 := hF.c 1 0 rfl rfl
        simp only [Act.put, List.setIfInBounds_toArray, List.set_cons_zero, List.set_cons_succ] at hK
        go_simp
        first | exact hK.out _ _ (Below.refl _ _) rfl | (have hk := hK.out _ _ (Below.refl _ _) rfl; revert hk; go_simp)
      case po7x4 =>
        intro w1 hb1 hd KK hK
        clear hd
        simp only [Act.put, List.setIfInBounds_toArray, List.set_cons_zero, List.set_cons_succ] at hK
        go_simp
        first | exact hK.out _ _ (Below.refl _ _) rfl | (have hk := hK.out _ _ (Below.refl _ _) rfl; revert hk; go_simp)
      case po7x5 =>
        intro w1 hb1 hd KK hK
        have d3 : x3 = .slice (some ⟨gd, od, none⟩) data.length cd := hd 3 (by kernel_rfl)
        have d4 : x4 = .int .i64 (q : Int) := hd 4 (by kernel_rfl)
        clear hd
        subst d3
        subst d4
        simp only [Act.put, List.setIfInBounds_toArray, List.set_cons_zero, List.set_cons_succ] at hK
        go_simp
        first | exact hK.out _ _ (Below.refl _ _) rfl | (have hk := hK.out _ _ (Below.refl _ _) rfl; revert hk; go_simp)
      case po7x6 =>
        intro w1 hb1 hd KK hK
        have d5 : x5 = .pointer (some ⟨gd, od + q, none⟩) := hd 5 (by kernel_rfl)
        clear hd
        subst d5
        have hcx := (hb1.cell (p := ⟨gd, od + q, none⟩) (Nat.lt_of_lt_of_le hlb F7.out.hlo)).trans HCD.out
        simp only [Act.put, List.setIfInBounds_toArray, List.set_cons_zero, List.set_cons_succ] at hK
        go_simp
        first | exact hK.out _ _ (Below.refl _ _) rfl | (have hk := hK.out _ _ (Below.refl _ _) rfl; revert hk; go_simp)
      case po7x7 =>
        intro w1 hb1 hd KK hK
        have d0 : x0 = .pointer (some ⟨b8, 1, none⟩) := hd 0 (by kernel_rfl)
        have d1 : x1 = .slice (some ⟨g, 0, none⟩) N c6 := hd 1 (by kernel_rfl)
        have d2 : x2 = .int .i64 (k : Int) := hd 2 (by kernel_rfl)
        have d3 : x3 = .slice (some ⟨gd, od, none⟩) data.length cd := hd 3 (by kernel_rfl)
        have d4 : x4 = .int .i64 (q : Int) := hd 4 (by kernel_rfl)
        have d5 : x5 = .pointer (some ⟨gd, od + q, none⟩) := hd 5 (by kernel_rfl)
        have d6 : x6 = .int .i64 x := hd 6 (by kernel_rfl)
        clear hd
        subst d0
        subst d1
        subst d2
        subst d3
        subst d4
        subst d5
        subst d6
        simp only [Act.put, List.setIfInBounds_toArray, List.set_cons_zero, List.set_cons_succ] at hK
        go_simp
        first | exact hK.out _ _ (Below.refl _ _) rfl | (have hk := hK.out _ _ (Below.refl _ _) rfl; revert hk; go_simp)
      case pfl7 => (intro f hf; cases hf)
      case pend7 =>
      intro w1 hb1 hR hD
      have d0 : x0 = .pointer (some ⟨b8, 1, none⟩) := hR 0 (by decide)
      have d1 : x1 = .slice (some ⟨g, 0, none⟩) N c6 := hR 1 (by decide)
      have d2 : x2 = .int .i64 (k : Int) := hR 2 (by decide)
      have d3 : x3 = .slice (some ⟨gd, od, none⟩) data.length cd := hR 3 (by decide)
      have d4 : x4 = .int .i64 (q : Int) := hR 4 (by decide)
      have d5 : x5 = .pointer (some ⟨gd, od + q, none⟩) := hR 5 (by decide)
      have d6 : x6 = .int .i64 x := hR 6 (by decide)
      have d7 : x7 = .pointer (some ⟨g, k, none⟩) := hR 7 (by decide)
      clear hR hD
      subst d0
      subst d1
      subst d2
      subst d3
      subst d4
      subst d5
      subst d6
      subst d7
      refine wpAnyIn_ready (rs := [8]) (by kernel_rfl) (by simp) (AllReadyIn.cons rfl (fun KK hK => ?_) AllReadyIn.nil)
      have F8 := F7.out.next hb1
      obtain ⟨r1, r2⟩ := F8.rc 1 k rfl HGET.out
      go_simp
      refine hK _ _ ?_
      clear hK KK
      try simp only [putAll, Act.put, List.setIfInBounds_toArray, List.set_cons_zero, List.set_cons_succ]
      refine wpAnyIn_done (by kernel_rfl) ?_ _
      have F9 := Lib.hid (F8.put 1 k rfl (.int .i64 x))
      simp only [List.set_cons_zero, List.set_cons_succ] at F9
      rw [map_set, frontL_set _ k (by rw [HWL.out]; exact hk) _ HWG.out] at F9
      have HK2 := Lib.hid ((HK.out.trans (Kept.of_below hb1)).trans (Kept.of_grown (row := some g) (Go.Lib.grownBy_setCell w1 g k (.int .i64 x)) (fun e he => by injection he with he; have := HJ.out.bO _ (List.mem_of_getElem? (i := 1) rfl) g rfl; omega)))
      obtain ⟨V9, hV9⟩ : ∃ V9, w1.setCell ⟨g, k, none⟩ (.int .i64 x) = V9 := ⟨_, rfl⟩
      rw [hV9] at F9 HK2 ⊢
      clear hV9 F8 F7 r1 r2 hb1
      (repeat gi_step)
      refine ⟨F9.out.m 1 rfl, HK2.out.trans (Kept.putObj _ _ _ _ (by omega)), ?_⟩
      have F10 := F9.out.putM 1 rfl (.loop (R .ready none)) rfl
      simp only [List.set_cons_zero, List.set_cons_succ] at F10
      have hj := HJ.out
      exact ⟨F10, hj.lS, by have := HK2.out.1; have := hj.sz; simp; omega, hj.bB, by have := hj.bO; simp only [List.mem_cons, List.not_mem_nil, or_false, forall_eq_or_imp, forall_eq] at this ⊢; exact this, by have := hj.bM; simp only [List.mem_cons, List.not_mem_nil, or_false, forall_eq_or_imp, forall_eq] at this ⊢; exact this⟩
  case hdone =>
    rintro V o ho ⟨o2, FZ⟩
    have FY := Lib.hid (FZ.putM 1 rfl o ho)
    simp only [List.set_cons_zero, List.set_cons_succ] at FY
    generalize V.putObj (P + 1 + 1) o = V3 at *
    clear FZ F5
    have hfl := frontL_full WV
    rw [HWL.out] at hfl
    rw [hfl] at FY
    clear hfl
    skip
    have y2_0 := FY.out.c 2 0 rfl rfl
    have y2_1 := FY.out.c 2 1 rfl rfl
    have y3_0 := FY.out.c 3 0 rfl rfl
    have y3_1 := FY.out.c 3 1 rfl rfl
    have yf2_0 := FY.out.f 2 0 rfl rfl
    have yf2_1 := FY.out.f 2 1 rfl rfl
    go_wp2
    have FX := Lib.hid (FY.out.set 2 rfl (by simp) [.slice a2 sh.length c2, .slice (some ⟨g, 0, none⟩) N c6] rfl)
    simp only [List.set_cons_zero, List.set_cons_succ] at FX
    obtain ⟨W9, hW9⟩ : ∃ W9, setL V3 (w.heap.size + 1 + 1) 0 [.slice a2 sh.length c2, .slice (some ⟨g, 0, none⟩) N c6] = W9 := ⟨_, rfl⟩
    rw [hW9] at FX
    simp only [setL, Nat.reduceAdd] at hW9
    rw [hW9]
    clear hW9 FY y2_0 y2_1 y3_0 y3_1 yf2_0 yf2_1
    refine ⟨by simp, .inl ⟨_, _, rfl, run_takeDeferred (FX.out.m 0 rfl), ?_⟩⟩
    have FV := FX.out.putM 0 rfl (.deferred none) rfl
    simp only [List.set_cons_zero, List.set_cons_succ] at FV
    generalize W9.putObj (P + 1) (.deferred none) = U at *
    have c0 := FV.c 2 0 rfl rfl
    have c1 := FV.c 2 1 rfl rfl
    have hpost : RetTV w sh WV 0 (.returned (.tuple #[.agg #[.slice a2 sh.length c2, .slice (some ⟨g, 0, none⟩) N c6], .int .i64 0])) U := ⟨a2, c2, some ⟨g, 0, none⟩, c6, by rw [HWL.out], by rw [HWL.out]; exact FV.rows⟩
    refine ⟨_, ?_, (show RetTV w sh (wordsV sh st off data) 0 _ _ from by rw [HWV.out]; exact hpost)⟩
    rw [results_ctV rfl]
    go_simp
end Go.Proofs.Ytnafbgkfhojamaa
