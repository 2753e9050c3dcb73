/- Walks: reduce.Max in all cases. -/
import Derived.Test.YtmjcpgfekpedkaaRdM
import Derived.Test.YtmjcpgfekpedkaaRdU
import Derived.Test.YtmjcpgfekpedkaaRdV
import Derived.Sort.BigQuietIn
set_option linter.unusedVariables false
set_option linter.unusedSimpArgs false
namespace Go.Proofs.Ytmjcpgfekpedkaa
open Go.RowKit Go.Rt
/-- Where the word n goes, along the axis a; the greatest words and their picks. -/
def mxG (xs : List Int) (a : Nat) : Nat → Nat := fun n => (intoI xs [(a : Int)] n).toNat
def mxT (xs ys : List Int) (a : Nat) (n : Nat) : Nat → Int := fun k => (mxK (mxG xs a) (hereI xs a) ys k n).1
def mxQ (xs ys : List Int) (a : Nat) (n : Nat) : Nat → Int := fun k => (mxK (mxG xs a) (hereI xs a) ys k n).2
def mxZ (xs ys : List Int) (x : Int) : Int := ckZ xs ys [x]
def mxX (xs ys : List Int) (x : Int) : List Int := zL (mxZ xs ys x) (restL xs [x])
def mxY (xs ys : List Int) (x : Int) : List Int := zL (mxZ xs ys x) ((List.range (smN xs [x])).map (mxT xs ys x.toNat ys.length))
def mxP (xs ys : List Int) (x : Int) : List Int := zL (mxZ xs ys x) ((List.range (smN xs [x])).map (mxQ xs ys x.toNat ys.length))
/-- A tensor, a list and a code handed back. -/
def RetMX (w : World) (sh ys ps : List Int) (z : Int) (e : Ending) (w' : World) : Prop :=
 ∃ a c b d p q, e = .returned (.tuple #[.agg #[.slice a sh.length c, .slice b ys.length d], .slice p ps.length q, .int .i64 z]) ∧ Fr w.heap.size w w' [] [] [⟨3, .slice a sh.length c, sh.length, sh.map (Value.int .i64)⟩, ⟨2, .slice b ys.length d, ys.length, ys.map (Value.int .i64)⟩, ⟨3, .slice p ps.length q, ps.length, ps.map (Value.int .i64)⟩] []
theorem retMX_none {w w' : World} {z : Int} {B : List (Nat × List Value)} {I : List (IntKind × Option Addr × List Int)} (h : Fr w.heap.size w w' B I [] []) : RetMX w [] [] [] z (.returned (.tuple #[.agg #[.slice none 0 0, .slice none 0 0], .slice none 0 0, .int .i64 z])) w' :=
 ⟨none, 0, none, 0, none, 0, rfl, (((h.rows.addNil _).addNil _).addNil _)⟩
theorem fillC {N : Nat} {f g : Nat → Int} {k : Nat} (v : Int) (hk : k < N) (hv : g k = v) (hg : ∀ i, i ≠ k → g i = f i) : (((List.range N).map f).map (Value.int .i64)).set k (.int .i64 v) = ((List.range N).map g).map (Value.int .i64) := by
 refine List.ext_getElem (by simp) fun i h1 h2 => ?_
 rw [List.getElem_set]
 simp only [List.getElem_map, List.getElem_range]
 by_cases hik : k = i
 ·subst hik; rw [if_pos rfl, hv]
 ·rw [if_neg hik, hg i (fun h => hik h.symm)]
theorem rangeV {N : Nat} (f : Nat → Int) {k : Nat} (hk : k < N) : (((List.range N).map f).map (Value.int .i64))[k]? = some (.int .i64 (f k)) := by
 rw [List.getElem?_map, List.getElem?_map, List.getElem?_range hk]
 rfl
theorem range_zero (N : Nat) : (List.range N).map (fun _ => (0 : Int)) = List.replicate N 0 := by
 refine List.ext_getElem (by simp) fun i h1 h2 => by simp
theorem results_ccM {fn : Func} {p q u : Tmp} {ty tz : TypeId} (h : fn.results = #[.cell p ty, .cell q tz, .tmp u]) (tmps : Array Value) (P : Program) (w : World) :
  (results fn tmps).run P w = ((asAddr (tmps.getD p undef)).run P w).andThen fun a w₁ => ((loadVar ty a).run P w₁).andThen fun v w₂ => ((asAddr (tmps.getD q undef)).run P w₂).andThen fun b w₃ => ((loadVar tz b).run P w₃).andThen fun v2 w₄ => .ok (.tuple #[v, v2, tmps.getD u undef]) w₄ := by
 simp only [results, h]
 simp [Sem.run_bind, Result.andThen]
theorem hereI_get {xs : List Int} {a : Nat} (n : Nat) (h : a < xs.length) : (standsI xs (n : Int))[a]? = some (hereI xs a n) := by
 unfold hereI
 rw [List.getElem?_eq_getElem (by rw [standsI_length]; exact h)]
 rfl

attribute [local go_sem] Oper.semAt_some
set_option maxRecDepth 100000 in
set_option maxHeartbeats 4000000 in
theorem rmax_bad (a b : Option Addr) (c d : Nat) (xs ys : List Int) (x : Int) (w : World) (h : Ints .i64 w w.heap.size a xs) (h2 : Ints .i64 w w.heap.size b ys) (hx : -9223372036854775808 ≤ x ∧ x ≤ 9223372036854775807) (hz : ckZ xs ys [x] ≠ 0) :
  Calls Try.prog 18 #[.agg #[.slice a xs.length c, .slice b ys.length d], .int .i64 x] w (RetMX w [] [] [] (ckZ xs ys [x])) := by
 have H0 := Lib.hid h
 have H1 := Lib.hid h2
 have hck := fun q W h h2 h3 => check_any a b (some ⟨q, 0, none⟩) c d 1 xs ys [x] W h h2 h3
 obtain ⟨Z, hZ⟩ : ∃ z, ckZ xs ys [x] = z := ⟨_, rfl⟩
 rw [hZ] at hck hz ⊢
 have hzb : (Z != 0) = true := by simpa using hz
 have HCK := Lib.hid hck
 have HX := Lib.hid hx
 clear h h2 hck hz hZ hx
 go_enter Try.func18, Try.ntmps18
 have F1 := Lib.hid (((((Fr.start (w := w) (I := [(.i64, a, xs), (.i64, b, ys)]) (by intro z hz; simp at hz; rcases hz with rfl | rfl; exact H0.out; exact H1.out)).box1 (b := w.heap.size) (by simp) [.slice a xs.length c, .slice b ys.length d] 26).box1 (b := w.heap.size + 1) (by simp) [.int .i64 x] 3).box1 (b := w.heap.size + 1 + 1) (by simp) [.slice none 0 0, .slice none 0 0] 26).box1 (b := w.heap.size + 1 + 1 + 1) (by simp) [.slice none 0 0] 23)
 simp only [List.nil_append, List.cons_append] at F1
 go_upto_region 1 with fail
 obtain ⟨W1, hW1⟩ : ∃ W1, ((((w.alloc (.cells #[.slice a xs.length c, .slice b ys.length d] 26)).alloc (.cells #[.int .i64 x] 3)).alloc (.cells #[.slice none 0 0, .slice none 0 0] 26)).alloc (.cells #[.slice none 0 0] 23)) = W1 := ⟨_, rfl⟩
 rw [hW1] at F1 ⊢
 clear hW1
 have c0_0 := F1.out.c 0 0 rfl rfl
 have c0_1 := F1.out.c 0 1 rfl rfl
 have c1_0 := F1.out.c 1 0 rfl rfl
 have F1b := Lib.hid (F1.out.box1 (b := W1.heap.size) rfl [.int .i64 x] 3)
 simp only [List.nil_append, List.cons_append] at F1b
 go_wp2_with (first | (go_at_call 39; refine (HCK.out _ _ (F1b.out.lw 0 rfl) (F1b.out.lw 1 rfl) (ints_of_box (xs := [x]) (F1b.out.box _ (List.mem_of_getElem? (i := 4) rfl)).1 (F1b.out.bl 4 rfl).2 (by simp) (fun z hz => by obtain rfl := List.mem_singleton.1 hz; exact wf_i64_iff.2 HX.out))).mono ?_; rintro e w2 ⟨rfl, hb⟩; have F2 := Lib.hid (F1b.out.next hb); clear hb F1b F1 c0_0 c0_1 c1_0; have d2_0 := F2.out.c 2 0 rfl rfl; have d2_1 := F2.out.c 2 1 rfl rfl; have d3_0 := F2.out.c 3 0 rfl rfl; have df2_0 := F2.out.f 2 0 rfl rfl; have df2_1 := F2.out.f 2 1 rfl rfl; have df3_0 := F2.out.f 3 0 rfl rfl) | fail)
 have FZ := (F2.out.set 2 rfl (by simp) [.slice none 0 0, .slice none 0 0] rfl).set 3 rfl (by simp) [.slice none 0 0] rfl
 simp only [setL, Nat.reduceAdd, List.set_cons_zero, List.set_cons_succ] at FZ
 have y0 := FZ.c 2 0 rfl rfl
 have y1 := FZ.c 2 1 rfl rfl
 have y2 := FZ.c 3 0 rfl rfl
 refine bodyPost_ret (v := .tuple #[.agg #[.slice none 0 0, .slice none 0 0], .slice none 0 0, .int .i64 Z]) ?_ rfl (retMX_none (FZ.less (.refl _) (.refl _) (List.nil_sublist _) (.refl _)))
 rw [results_ccM rfl]
 go_simp
theorem ints_one {w : World} {g : Nat} {v : Int} (h : w.cell? ⟨g, 0, none⟩ = some (.int .i64 v)) (hv : (Lit.int .i64 v).wf = true) : Ints .i64 w w.heap.size (some ⟨g, 0, none⟩) [v] :=
 ⟨by simp, fun x hx => by obtain rfl := List.mem_singleton.1 hx; exact hv, fun i hi => by
  obtain rfl : i = 0 := by simpa using hi
  exact ⟨g, 0, rfl, World.block_lt_of_cell? w _ h, h⟩⟩
theorem mxK_at {g : Nat → Nat} {hr : Nat → Int} {ys : List Int} {n k : Nat} (h : g n = k) : mxK g hr ys k (n + 1) = mxS (ys[n]?.getD 0) (hr n) (mxK g hr ys k n) := by rw [mxK, if_pos h]
theorem mxK_ne {g : Nat → Nat} {hr : Nat → Int} {ys : List Int} {n k : Nat} (h : g n ≠ k) : mxK g hr ys k (n + 1) = mxK g hr ys k n := by rw [mxK, if_neg h]

set_option maxRecDepth 100000 in
set_option maxHeartbeats 4000000 in
theorem rmax_good (a b : Option Addr) (c d ax : Nat) (xs ys : List Int) (w : World) (h : Ints .i64 w w.heap.size a xs) (h2 : Ints .i64 w w.heap.size b ys) (ht : tenB xs ys = true) (hax : ax < xs.length) (hz : ckZ xs ys [(ax : Int)] = 0) :
  Calls Try.prog 18 #[.agg #[.slice a xs.length c, .slice b ys.length d], .int .i64 (ax : Int)] w (RetMX w (restL xs [(ax : Int)]) ((List.range (smN xs [(ax : Int)])).map (mxT xs ys ax ys.length)) ((List.range (smN xs [(ax : Int)])).map (mxQ xs ys ax ys.length)) 0) := by
 have H0 := Lib.hid h
 have H1 := Lib.hid h2
 have lT := tenB_iff.1 ht
 have hg := lT.1
 have hlen := lT.2.1
 have hx4 := (goodB_iff.1 hg).1
 have hP := goodB_prod hg
 obtain ⟨b1, b2, b3, b4, b5, b6⟩ := sm_bounds [(ax : Int)] ht
 have hgS := restL_good (axes := [(ax : Int)]) hg
 have hib := fun n : Int => into_bound [(ax : Int)] n hg
 have hck := fun q W h h2 h3 => check_any a b (some ⟨q, 0, none⟩) c d 1 xs ys [(ax : Int)] W h h2 h3
 rw [hz] at hck
 have hre := fun q W h h2 => rest_any a (some ⟨q, 0, none⟩) c 1 xs [(ax : Int)] W h h2 (by omega)
 have hxw : (Lit.int .i64 (ax : Int)).wf = true := wf_i64_iff.2 ⟨by omega, by omega⟩
 have hax4 : ax < 4 := by omega
 obtain ⟨N, hN⟩ : ∃ N, smN xs [(ax : Int)] = N := ⟨_, rfl⟩
 rw [hN] at b1 b2 b3 ⊢
 rw [b1] at hib
 obtain ⟨G, hG⟩ : ∃ G : Nat → Nat, mxG xs ax = G := ⟨_, rfl⟩
 have hGI : ∀ n : Nat, intoI xs [(ax : Int)] n = (G n : Int) ∧ G n < N := fun n => by
  have := hib n
  rw [← hG]
  exact ⟨by show _ = ((intoI xs [(ax : Int)] n).toNat : Int); omega, by show (intoI xs [(ax : Int)] n).toNat < N; omega⟩
 obtain ⟨S, hS⟩ : ∃ S, restL xs [(ax : Int)] = S := ⟨_, rfl⟩
 rw [hS] at hgS b1 hre ⊢
 have hnw := fun a9 c9 W (h : Ints .i64 W W.heap.size a9 S) => elemNew_any a9 c9 S W h hgS
 rw [b1, Int.toNat_natCast] at hnw
 have hwl : ∀ x ∈ S, (Lit.int .i64 x).wf = true := wf_dims (fun x hx => by have := goodB_dims hgS x hx; omega)
 obtain ⟨TT, hTT⟩ : ∃ T, mxT xs ys ax = T := ⟨_, rfl⟩
 obtain ⟨PP, hPP⟩ : ∃ T, mxQ xs ys ax = T := ⟨_, rfl⟩
 rw [hTT, hPP]
 have hT0 : TT 0 = fun _ => 0 := by rw [← hTT]; rfl
 have hP0 : PP 0 = fun _ => 0 := by rw [← hPP]; rfl
 have hstep : ∀ n k, (G n ≠ k → TT (n + 1) k = TT n k ∧ PP (n + 1) k = PP n k) ∧ (G n = k → (hereI xs ax n = 0 ∨ TT n k < ys[n]?.getD 0) → TT (n + 1) k = ys[n]?.getD 0 ∧ PP (n + 1) k = hereI xs ax n) ∧ (G n = k → ¬ (hereI xs ax n = 0 ∨ TT n k < ys[n]?.getD 0) → TT (n + 1) k = TT n k ∧ PP (n + 1) k = PP n k) := fun n k => by
  rw [← hTT, ← hPP, ← hG]
  unfold mxT mxQ
  refine ⟨fun h => ?_, fun h h2 => ?_, fun h h2 => ?_⟩
  ·rw [mxK_ne h]; exact ⟨rfl, rfl⟩
  ·rw [mxK_at h]; unfold mxS; rw [if_pos h2]; exact ⟨rfl, rfl⟩
  ·rw [mxK_at h]; unfold mxS; rw [if_neg h2]; exact ⟨rfl, rfl⟩
 obtain ⟨M, hM⟩ : ∃ M, ys.length = M := ⟨_, rfl⟩
 have hMx : prodI xs = (M : Int) := by omega
 have hhb := fun n : Nat => here_bound (n := n) hg hax
 have hd4 := goodB_dims hg
 have hhw : ∀ n, 0 ≤ hereI xs ax n ∧ hereI xs ax n < 4097 := fun n => by
  have h1 := hhb n
  have h2 := (hd4.at hax)
  rw [List.getElem?_eq_getElem hax, Option.getD_some] at h1
  omega
 have HG := Lib.hid hg
 have HGS := Lib.hid hgS
 have HGI := Lib.hid hGI
 have HWL := Lib.hid hwl
 have HWX := Lib.hid h.wf
 have HM := Lib.hid hM
 have HMX := Lib.hid hMx
 have HCK := Lib.hid hck
 have HRE := Lib.hid hre
 have HNW := Lib.hid hnw
 have HXW := Lib.hid hxw
 have HST := Lib.hid hstep
 have HT0 := Lib.hid hT0
 have HP0 := Lib.hid hP0
 have HHW := Lib.hid hhw
 have HS := Lib.hid hS
 have hM2 : M ≤ 65536 := by omega
 have hN2 : N ≤ 65536 := by omega
 have HAX := Lib.hid hax
 clear h h2 ht lT hg hlen hP b1 b3 b4 b5 b6 hgS hib hck hre hnw hxw hN hG hGI hwl hTT hPP hT0 hP0 hstep hM hMx hz hS hhb hd4 hhw
 refine (callsIn_wide (n := 20)).1 ?_
 refine callsIn_of_wp_marks Try.func18 rfl trivial ?_ rfl
 simp only [Try.ntmps18, List.size_toArray, List.length_cons, List.length_nil, Nat.reduceAdd, Nat.reduceSub, Array.replicate_succ, Array.replicate_zero, List.push_toArray, List.append_toArray, List.nil_append, List.cons_append]
 refine wpIn_wide.2 ?_
 have F1 := Lib.hid (((((Fr.start (w := w) (I := [(.i64, a, xs), (.i64, b, ys)]) (by intro z hz; simp at hz; rcases hz with rfl | rfl; exact H0.out; exact H1.out)).box1 (b := w.heap.size) (by simp) [.slice a xs.length c, .slice b ys.length d] 26).box1 (b := w.heap.size + 1) (by simp) [.int .i64 (ax : Int)] 3).box1 (b := w.heap.size + 1 + 1) (by simp) [.slice none 0 0, .slice none 0 0] 26).box1 (b := w.heap.size + 1 + 1 + 1) (by simp) [.slice none 0 0] 23)
 simp only [List.nil_append, List.cons_append] at F1
 go_upto_region 1 with fail
 obtain ⟨W1, hW1⟩ : ∃ W1, ((((w.alloc (.cells #[.slice a xs.length c, .slice b ys.length d] 26)).alloc (.cells #[.int .i64 (ax : Int)] 3)).alloc (.cells #[.slice none 0 0, .slice none 0 0] 26)).alloc (.cells #[.slice none 0 0] 23)) = W1 := ⟨_, rfl⟩
 rw [hW1] at F1 ⊢
 clear hW1
 have c0_0 := F1.out.c 0 0 rfl rfl
 have c0_1 := F1.out.c 0 1 rfl rfl
 have c1_0 := F1.out.c 1 0 rfl rfl
 have F1b := Lib.hid (F1.out.box1 (b := W1.heap.size) rfl [.int .i64 (ax : Int)] 3)
 simp only [List.nil_append, List.cons_append] at F1b
 go_upto_region 4 with (go_at_call 39; refine (HCK.out _ _ (F1b.out.lw 0 rfl) (F1b.out.lw 1 rfl) (ints_of_box (xs := [(ax : Int)]) (F1b.out.box _ (List.mem_of_getElem? (i := 4) rfl)).1 (F1b.out.bl 4 rfl).2 (by simp) (fun z hz => by obtain rfl := List.mem_singleton.1 hz; exact HXW.out))).mono ?_; rintro e w2 ⟨rfl, hb⟩; have F2 := Lib.hid (F1b.out.next hb); clear hb F1b F1 c0_0 c0_1 c1_0)
 have c0_0 := F2.out.c 0 0 rfl rfl
 have c0_1 := F2.out.c 0 1 rfl rfl
 have c1_0 := F2.out.c 1 0 rfl rfl
 have F2b := Lib.hid ((F2.out.less (.cons_cons _ (.cons_cons _ (.cons_cons _ (.cons_cons _ (.cons _ .slnil))))) (.refl _) (.refl _) (.refl _)).box1 (b := w2.heap.size) rfl [.int .i64 (ax : Int)] 3)
 simp only [List.nil_append, List.cons_append] at F2b
 clear F2
 go_upto_region 5 with (first | (go_at_call 40; refine (HRE.out _ _ (F2b.out.lw 0 rfl) (ints_of_box (xs := [(ax : Int)]) (F2b.out.box _ (List.mem_of_getElem? (i := 4) rfl)).1 (F2b.out.bl 4 rfl).2 (by simp) (fun z hz => by obtain rfl := List.mem_singleton.1 hz; exact HXW.out))).mono ?_; rintro e w3 ⟨v, rfl, hown, hb⟩; obtain ⟨as1, cs1, rfl, _⟩ := own_shape hown; have F3 := Lib.hid (F2b.out.addO hb hown); simp only [List.nil_append] at F3; clear hown hb F2b c0_0 c0_1 c1_0) | (go_at_call 33; refine (HNW.out as1 cs1 w3 (F3.out.li 0 (k := .i64) (xs := S) rfl HWL.out)).mono ?_; rintro e w4 hr; obtain ⟨as_, cs_, gd, dd, rfl, hf⟩ := retNew_fr hr b2; have F4 := Lib.hid (F3.out.join hf); simp only [List.cons_append, List.nil_append] at F4; clear hf hr F3; have d2_0 := F4.out.c 2 0 rfl rfl; have d2_1 := F4.out.c 2 1 rfl rfl; have df2_0 := F4.out.f 2 0 rfl rfl; have df2_1 := F4.out.f 2 1 rfl rfl) | fail)
 have F5a := Lib.hid (F4.out.set 2 rfl (by simp) [.slice as_ S.length cs_, .slice (some ⟨gd, 0, none⟩) N dd] rfl)
 simp only [List.set_cons_zero, List.set_cons_succ] at F5a
 have F5 := Lib.hid (F5a.out.less (.cons_cons _ (.cons_cons _ (.cons_cons _ (.cons_cons _ (.cons _ .slnil))))) (.refl _) (.cons _ (.refl _)) (.refl _))
 clear F5a F4
 obtain ⟨W5, hW5⟩ : ∃ x, setL w4 (w.heap.size + 1 + 1) 0 [.slice as_ S.length cs_, .slice (some ⟨gd, 0, none⟩) N dd] = x := ⟨_, rfl⟩
 have hW5c : (w4.setCell ⟨w.heap.size + 1 + 1, 0, none⟩ (.slice as_ S.length cs_)).setCell ⟨w.heap.size + 1 + 1, 1, none⟩ (.slice (some ⟨gd, 0, none⟩) N dd) = W5 := hW5
 rw [hW5] at F5
 rw [hW5c]
 clear hW5 hW5c d2_0 d2_1 df2_0 df2_1
 have c2_0 := F5.out.c 2 0 rfl rfl
 have c2_1 := F5.out.c 2 1 rfl rfl
 go_upto_region 6 with (first | (at_make; (refine wpl_make 23 3 .i64 infoInt Try.underlying23 W5.heap.size N _ _ _ _ rfl rfl rfl rfl rfl rfl (by omega) (Nat.le_refl _) ?_); intro w6 hown hgrow hsz6; have F6 := Lib.hid (F5.out.addO (hgrow _ (Nat.le_refl _)) hown); simp only [List.cons_append, List.nil_append] at F6; clear hown hgrow F5 c2_0 c2_1; have d3_0 := F6.out.c 3 0 rfl rfl; have df3_0 := F6.out.f 3 0 rfl rfl) | fail)
 obtain ⟨gp, hgp⟩ : ∃ g, W5.heap.size = g := ⟨_, rfl⟩
 rw [hgp] at F6
 (try rw [hgp])
 clear hgp hsz6
 have F7 := Lib.hid (F6.out.set 3 rfl (by simp) [.slice (some ⟨gp, 0, none⟩) N N] rfl)
 simp only [setL, Nat.reduceAdd, List.set_cons_zero, List.set_cons_succ] at F7
 obtain ⟨W7, hW7⟩ : ∃ x, w6.setCell ⟨w.heap.size + 1 + 1 + 1, 0, none⟩ (.slice (some ⟨gp, 0, none⟩) N N) = x := ⟨_, rfl⟩
 rw [hW7] at F7 ⊢
 clear hW7 F6 d3_0 df3_0
 have c0_0 := F7.out.c 0 0 rfl rfl
 have c0_1 := F7.out.c 0 1 rfl rfl
 go_upto_block 0 with (go_at_call 41; refine (all_any a c xs W7 (F7.out.lw 0 rfl) (by omega)).mono ?_; rintro e w8 ⟨ap, cp, rfl, hfr⟩; have F8 := Lib.hid (F7.out.join2 hfr); simp only [List.nil_append, List.cons_append, List.append_nil] at F8; clear hfr F7 c0_0 c0_1)
 obtain ⟨P, hP⟩ : ∃ P, W7.heap.size = P := ⟨_, rfl⟩
 rw [hP] at F8 ⊢
 clear hP
 obtain ⟨D, hD⟩ : ∃ D, w8.heap.size = D := ⟨_, rfl⟩
 have hz0 := range_zero N
 rw [← hz0] at F8
 have F8b := F8.out
 have e1 : (List.range N).map (fun _ => (0 : Int)) = (List.range N).map (TT 0) := by rw [HT0.out]
 have e2 : (List.range N).map (fun _ => (0 : Int)) = (List.range N).map (PP 0) := by rw [HP0.out]
 have F9 : Hid (Fr w.heap.size w w8 [(w.heap.size, [.slice a xs.length c, .slice b ys.length d]), (w.heap.size + 1, [.int .i64 (ax : Int)]), (w.heap.size + 1 + 1, [.slice as_ S.length cs_, .slice (some ⟨gd, 0, none⟩) N dd]), (w.heap.size + 1 + 1 + 1, [.slice (some ⟨gp, 0, none⟩) N N]), (P, [.slice ap xs.length cp])] [(.i64, a, xs), (.i64, b, ys)] [⟨3, .slice as_ S.length cs_, S.length, S.map (Value.int .i64)⟩, ⟨2, .slice (some ⟨gd, 0, none⟩) N dd, N, ((List.range N).map (TT 0)).map (Value.int .i64)⟩, ⟨3, .slice (some ⟨gp, 0, none⟩) N N, N, ((List.range N).map (PP 0)).map (Value.int .i64)⟩, ⟨3, .slice ap xs.length cp, xs.length, xs.map (Value.int .i64)⟩] []) := Lib.hid (by rw [← e1, ← e2]; exact F8b)
 clear F8 F8b hz0 e1 e2
 go_wp2
 refine wpIn_wide.1 (wpIn_rangeFunc_any (n := 20) rfl (by omega) (gf := 71) (lb := #[.pointer (some ⟨P, 0, none⟩)]) rfl trivial (enters_of Try.func71 (by kernel_rfl) rfl) D hD
  (fun W2 => ∃ o, Hid (Fr w.heap.size w W2 [(w.heap.size, [.slice a xs.length c, .slice b ys.length d]), (w.heap.size + 1, [.int .i64 (ax : Int)]), (w.heap.size + 1 + 1, [.slice as_ S.length cs_, .slice (some ⟨gd, 0, none⟩) N dd]), (w.heap.size + 1 + 1 + 1, [.slice (some ⟨gp, 0, none⟩) N N]), (P, [.slice ap xs.length cp])] [(.i64, a, xs), (.i64, b, ys)] [⟨3, .slice as_ S.length cs_, S.length, S.map (Value.int .i64)⟩, ⟨2, .slice (some ⟨gd, 0, none⟩) N dd, N, ((List.range N).map (TT M)).map (Value.int .i64)⟩, ⟨3, .slice (some ⟨gp, 0, none⟩) N N, N, ((List.range N).map (PP M)).map (Value.int .i64)⟩, ⟨3, .slice ap xs.length cp, xs.length, xs.map (Value.int .i64)⟩] [(D, .deferred (some [])), (D + 1, o)])) (fun _ _ => False) ?hcall ?hdone ?hstop)
 case hstop =>
  intro cc W2 o ho hf
  exact hf.elim
 case hcall =>
  intro fn R hfn hR
  have HR := Lib.hid hR
  clear hR
  have F10 := Lib.hid ((F9.out.recM hD (.deferred (some [])) rfl).recM (b := D + 1) (by simp [hD]) (.loop (R .ready none)) rfl)
  simp only [List.nil_append, List.cons_append] at F10
  obtain ⟨W10, hW10⟩ : ∃ W10, ((w8.alloc (.deferred (some []))).alloc (.loop (R .ready none))) = W10 := ⟨_, rfl⟩
  rw [hW10] at F10 ⊢
  clear hW10 F9
  refine (allIter 19 (by omega) (D + 1) P M ap cp xs W10 (fun k V => Fr w.heap.size w V [(w.heap.size, [.slice a xs.length c, .slice b ys.length d]), (w.heap.size + 1, [.int .i64 (ax : Int)]), (w.heap.size + 1 + 1, [.slice as_ S.length cs_, .slice (some ⟨gd, 0, none⟩) N dd]), (w.heap.size + 1 + 1 + 1, [.slice (some ⟨gp, 0, none⟩) N N]), (P, [.slice ap xs.length cp])] [(.i64, a, xs), (.i64, b, ys)] [⟨3, .slice as_ S.length cs_, S.length, S.map (Value.int .i64)⟩, ⟨2, .slice (some ⟨gd, 0, none⟩) N dd, N, ((List.range N).map (TT k)).map (Value.int .i64)⟩, ⟨3, .slice (some ⟨gp, 0, none⟩) N N, N, ((List.range N).map (PP k)).map (Value.int .i64)⟩, ⟨3, .slice ap xs.length cp, xs.length, xs.map (Value.int .i64)⟩] [(D, .deferred (some [])), (D + 1, .loop (R .ready none))]) (fun _ => False) HG.out HMX.out (fun k W1 W2 h hb => h.next hb) (fun k V h => ⟨h.c 4 0 rfl rfl, h.li 3 (k := .i64) (xs := xs) rfl HWX.out⟩) ?hY F10.out).mono ?post
  case post =>
   rintro e V ⟨hv, h | h⟩
   ·exact ⟨hv, .inl ⟨⟨_, Lib.hid h⟩, h.m 1 rfl⟩⟩
   ·exact h.elim
  case hY =>
   rintro k a1 c1 V1 hk hj hI1
   refine yieldAt_roundR hfn HR.out (hj.m 1 rfl) rfl ?_
   have G1 := Lib.hid (hj.putM 1 rfl (.loop (R .busy none)) rfl)
   simp only [List.set_cons_zero, List.set_cons_succ] at G1
   have HI := Lib.hid (hI1.putObj (hj.m 1 rfl) rfl (.loop (R .busy none)))
   have hszV : (V1.putObj (D + 1) (.loop (R .busy none))).heap.size = V1.heap.size := by simp
   have HJ := Lib.hid hj
   clear hj hI1 hfn F10
   gi_wp2
   refine ⟨HJ.out.m 1 rfl, ?_⟩
   obtain ⟨V, hV⟩ : ∃ V, V1.putObj (D + 1) (.loop (R .busy none)) = V := ⟨_, rfl⟩
   rw [hV] at G1 HI hszV ⊢
   rw [← hszV] at HI
   clear hV hszV HJ
   obtain ⟨hgi, hgn⟩ := HGI.out k
   obtain ⟨g, hg⟩ : ∃ g, G k = g := ⟨_, rfl⟩
   rw [hg] at hgi hgn
   have HGK := Lib.hid hg
   clear hg
   have hsl := standsI_length xs (k : Int)
   have hswf : ∀ x ∈ standsI xs (k : Int), (Lit.int .i64 x).wf = true := wf_stands (goodB_dims HG.out)
   have hplc : placeI S (restL (standsI xs (k : Int)) [(ax : Int)]) = (g : Int) := by rw [← hgi, ← HS.out]; rfl
   have hwin : withinB S (restL (standsI xs (k : Int)) [(ax : Int)]) = true := by rw [← HS.out]; exact restL_within (standsI_within xs (k : Int) (goodB_dims HG.out))
   have hget := hereI_get k HAX.out
   obtain ⟨hh, hhe⟩ : ∃ h, hereI xs ax k = h := ⟨_, rfl⟩
   rw [hhe] at hget
   have HHE := Lib.hid hhe
   clear hhe
   obtain ⟨IL, hIL⟩ : ∃ l, standsI xs (k : Int) = l := ⟨_, rfl⟩
   rw [hIL] at hsl hswf hplc hwin HI hget
   obtain ⟨RL, hRL⟩ : ∃ l, restL IL [(ax : Int)] = l := ⟨_, rfl⟩
   have hre := fun q (cq : Nat) W (h : Ints .i64 W W.heap.size a1 IL) (h2 : Ints .i64 W W.heap.size (some ⟨q, 0, none⟩) [(ax : Int)]) => rest_any a1 (some ⟨q, 0, none⟩) c1 cq IL [(ax : Int)] W h h2 (by omega)
   rw [hsl] at hre
   rw [hRL] at hplc hwin hre
   have hrwf : ∀ x ∈ RL, (Lit.int .i64 x).wf = true := fun x hx => hswf x (restL_mem (hRL ▸ hx))
   have HRWF := Lib.hid hrwf
   have HRE2 := Lib.hid hre
   have HPLC := Lib.hid hplc
   have HWIN := Lib.hid hwin
   have hai : ax < IL.length := by rw [hsl]; exact HAX.out
   obtain ⟨gi, oi, rfl, hli, hci⟩ := HI.out.cell ax hai
   rw [hget, Option.getD_some] at hci
   have HCI := Lib.hid hci
   have haxl : (ax : Int) < (xs.length : Int) := by have := HAX.out; omega
   clear hgi hsl hswf hplc hwin hIL hRL hre hrwf hget hci hai
   (repeat gi_step)
   refine wpIn_region_parts2 (w := V) 8 0 none [] [(fun u _ => u = .pointer (some ⟨w.heap.size + 1 + 1, 0, none⟩)), (fun u _ => u = .slice as_ S.length cs_), (fun u _ => u = .slice (some ⟨gi, oi, none⟩) xs.length c1), (fun u _ => u = .int .i64 (ax : Int)), ((IsOne (ax : Int))), ((IsRow V.heap.size 3 RL.length (RL.map (Value.int .i64)))), (fun u _ => u = .int .i64 (g : Int)), (fun u _ => u = .int .i64 (g : Int))] [some 34, some 35, some 36, some 37, some 38, some 39, some 40, some 10] #[true, true, true, true, true, true, true, true] #[true, true, true, true, true, true, true, true] (by kernel_rfl) rfl (by kernel_rfl) (by kernel_rfl) rfl (by kernel_rfl) (by kernel_rfl) (.cons (carries_eq _) (.cons (carries_eq _) (.cons (carries_eq _) (.cons (carries_eq _) (.cons (isOne_carries _) (.cons (isRow_carries _ _ _ _) (.cons (carries_eq _) (.cons (carries_eq _) .nil)))))))) (fun vs b hvl hvb => ?_)
   obtain ⟨x0, x1, x2, x3, x4, x5, x6, x7, rfl⟩ : ∃ x0 x1 x2 x3 x4 x5 x6 x7, vs = [x0, x1, x2, x3, x4, x5, x6, x7] := lst8 hvl
   clear hvl
   simp only [putAll, Act.put, List.setIfInBounds_toArray, List.set_cons_zero, List.set_cons_succ] at hvb
   subst hvb
   refine ⟨(.snoc (.snoc (.snoc (.snoc (.snoc (.snoc (.snoc (.snoc .zero (PartObIn.intro (d := (some 34)) (r := fun u _ => u = .pointer (some ⟨w.heap.size + 1 + 1, 0, none⟩)) rfl rfl rfl rfl ?po9x0)) (PartObIn.intro (d := (some 35)) (r := fun u _ => u = .slice as_ S.length cs_) rfl rfl rfl rfl ?po9x1)) (PartObIn.intro (d := (some 36)) (r := fun u _ => u = .slice (some ⟨gi, oi, none⟩) xs.length c1) rfl rfl rfl rfl ?po9x2)) (PartObIn.intro (d := (some 37)) (r := fun u _ => u = .int .i64 (ax : Int)) rfl rfl rfl rfl ?po9x3)) (PartObIn.intro (d := (some 38)) (r := (IsOne (ax : Int))) rfl rfl rfl rfl ?po9x4)) (PartObIn.intro (d := (some 39)) (r := (IsRow V.heap.size 3 RL.length (RL.map (Value.int .i64)))) rfl rfl rfl rfl ?po9x5)) (PartObIn.intro (d := (some 40)) (r := fun u _ => u = .int .i64 (g : Int)) rfl rfl rfl rfl ?po9x6)) (PartObIn.intro (d := (some 10)) (r := fun u _ => u = .int .i64 (g : Int)) rfl rfl rfl rfl ?po9x7)), ?pend9, ?pfl9⟩
   case po9x0 =>
    intro w1 hb1 hd KK hK
    clear hd
    simp only [Act.put, List.setIfInBounds_toArray, List.set_cons_zero, List.set_cons_succ] at hK
    go_simp
    first | exact hK.out _ _ (Below.refl _ _) rfl | (have hk := hK.out _ _ (Below.refl _ _) rfl; revert hk; go_simp)
   case po9x1 =>
    intro w1 hb1 hd KK hK
    have d0 : x0 = .pointer (some ⟨w.heap.size + 1 + 1, 0, none⟩) := hd 0 (by kernel_rfl)
    clear hd
    subst d0
    have hF := G1.out.next hb1
    have k0 := hF.c 2 0 rfl rfl
    simp only [Act.put, List.setIfInBounds_toArray, List.set_cons_zero, List.set_cons_succ] at hK
    go_simp
    first | exact hK.out _ _ (Below.refl _ _) rfl | (have hk := hK.out _ _ (Below.refl _ _) rfl; revert hk; go_simp)
   case po9x2 =>
    intro w1 hb1 hd KK hK
    clear hd
    simp only [Act.put, List.setIfInBounds_toArray, List.set_cons_zero, List.set_cons_succ] at hK
    go_simp
    first | exact hK.out _ _ (Below.refl _ _) rfl | (have hk := hK.out _ _ (Below.refl _ _) rfl; revert hk; go_simp)
   case po9x3 =>
    intro w1 hb1 hd KK hK
    clear hd
    have hF := G1.out.next hb1
    have k0 := hF.c 1 0 rfl rfl
    simp only [Act.put, List.setIfInBounds_toArray, List.set_cons_zero, List.set_cons_succ] at hK
    go_simp
    first | exact hK.out _ _ (Below.refl _ _) rfl | (have hk := hK.out _ _ (Below.refl _ _) rfl; revert hk; go_simp)
   case po9x4 =>
    intro w1 hb1 hd KK hK
    have d3 : x3 = .int .i64 (ax : Int) := hd 3 (by kernel_rfl)
    clear hd
    subst d3
    simp only [Act.put, List.setIfInBounds_toArray, List.set_cons_zero, List.set_cons_succ] at hK
    go_simp
    first | exact hK.out _ _ ((Below.refl _ _).alloc (Nat.le_refl _) _) ⟨_, _, rfl, oneNew w1 _ _⟩ | (have hk := hK.out _ _ ((Below.refl _ _).alloc (Nat.le_refl _) _) ⟨_, _, rfl, oneNew w1 _ _⟩; revert hk; go_simp)
   case po9x5 =>
    intro w1 hb1 hd KK hK
    have d2 : x2 = .slice (some ⟨gi, oi, none⟩) xs.length c1 := hd 2 (by kernel_rfl)
    have d4 : (IsOne (ax : Int)) x4 w1 := hd 4 (by kernel_rfl)
    clear hd
    subst d2
    obtain ⟨g4, c4, rfl, hO4⟩ := d4
    simp only [Act.put, List.setIfInBounds_toArray, List.set_cons_zero, List.set_cons_succ] at hK
    go_simp
    (repeat gi_step)
    refine ⟨trivial, ?_⟩
    refine ((CallsIn.inRound (D + 1) (callsIn_wide.2 (HRE2.out g4 c4 w1 ((HI.out.below hb1 (Nat.le_refl _)).mono hb1.size) (ints_one hO4 HXW.out)) : CallsIn Fence.wide 17 _ _ _ _ _))).mono ?_
    rintro e w2 ⟨v, rfl, hown, hb⟩
    obtain ⟨a2_, c2_, rfl, _⟩ := own_shape hown
    (try gi_wp2_with fail)
    first | exact hK.out _ _ hb ⟨a2_, c2_, rfl, own_mono hown hb1.size⟩ | (have hk := hK.out _ _ hb ⟨a2_, c2_, rfl, own_mono hown hb1.size⟩; revert hk; go_simp)
   case po9x6 =>
    intro w1 hb1 hd KK hK
    have d1 : x1 = .slice as_ S.length cs_ := hd 1 (by kernel_rfl)
    have d5 : (IsRow V.heap.size 3 RL.length (RL.map (Value.int .i64))) x5 w1 := hd 5 (by kernel_rfl)
    clear hd
    subst d1
    obtain ⟨a5x, c5x, rfl, hO5⟩ := d5
    simp only [Act.put, List.setIfInBounds_toArray, List.set_cons_zero, List.set_cons_succ] at hK
    go_simp
    (repeat gi_step)
    refine ⟨trivial, ?_⟩
    refine ((CallsIn.inRound (D + 1) (callsIn_wide.2 (place_any as_ a5x cs_ c5x w1.heap.size S RL w1 ((G1.out.next hb1).li 0 (k := .i64) (xs := S) rfl HWL.out) (ints_row hO5 rfl HRWF.out) HGS.out HWIN.out) : CallsIn Fence.wide 17 _ _ _ _ _))).mono ?_
    rintro e w2 ⟨rfl, rfl⟩
    rw [HPLC.out]
    (try gi_wp2_with fail)
    first | exact hK.out _ _ (Below.refl _ _) rfl | (have hk := hK.out _ _ (Below.refl _ _) rfl; revert hk; go_simp)
   case po9x7 =>
    intro w1 hb1 hd KK hK
    have d0 : x0 = .pointer (some ⟨w.heap.size + 1 + 1, 0, none⟩) := hd 0 (by kernel_rfl)
    have d1 : x1 = .slice as_ S.length cs_ := hd 1 (by kernel_rfl)
    have d2 : x2 = .slice (some ⟨gi, oi, none⟩) xs.length c1 := hd 2 (by kernel_rfl)
    have d3 : x3 = .int .i64 (ax : Int) := hd 3 (by kernel_rfl)
    have d4 : (IsOne (ax : Int)) x4 w1 := hd 4 (by kernel_rfl)
    have d5 : (IsRow V.heap.size 3 RL.length (RL.map (Value.int .i64))) x5 w1 := hd 5 (by kernel_rfl)
    have d6 : x6 = .int .i64 (g : Int) := hd 6 (by kernel_rfl)
    clear hd
    subst d0
    subst d1
    subst d2
    subst d3
    obtain ⟨g4, c4, rfl, hO4⟩ := d4
    obtain ⟨a5x, c5x, rfl, hO5⟩ := d5
    subst d6
    simp only [Act.put, List.setIfInBounds_toArray, List.set_cons_zero, List.set_cons_succ] at hK
    go_simp
    first | exact hK.out _ _ (Below.refl _ _) rfl | (have hk := hK.out _ _ (Below.refl _ _) rfl; revert hk; go_simp)
   case pfl9 => (intro f hf; cases hf)
   case pend9 =>
   intro w1 hb1 hR hD
   have d0 : x0 = .pointer (some ⟨w.heap.size + 1 + 1, 0, none⟩) := hR 0 (by decide)
   have d1 : x1 = .slice as_ S.length cs_ := hR 1 (by decide)
   have d2 : x2 = .slice (some ⟨gi, oi, none⟩) xs.length c1 := hR 2 (by decide)
   have d3 : x3 = .int .i64 (ax : Int) := hR 3 (by decide)
   have d4 : (IsOne (ax : Int)) x4 w1 := hR 4 (by decide)
   have d5 : (IsRow V.heap.size 3 RL.length (RL.map (Value.int .i64))) x5 w1 := hR 5 (by decide)
   have d6 : x6 = .int .i64 (g : Int) := hR 6 (by decide)
   have d7 : x7 = .int .i64 (g : Int) := hR 7 (by decide)
   clear hR hD
   subst d0
   subst d1
   subst d2
   subst d3
   obtain ⟨g4, c4, rfl, hO4⟩ := d4
   obtain ⟨a5x, c5x, rfl, hO5⟩ := d5
   subst d6
   subst d7
   refine wpAnyIn_done (by kernel_rfl) ?_ _
   have G2 := Lib.hid (G1.out.next hb1)
   have HCI2 := Lib.hid ((hb1.cell (p := ⟨gi, oi + ax, none⟩) hli).trans HCI.out)
   have hli2 : gi < w1.heap.size := Nat.lt_of_lt_of_le hli hb1.size
   clear G1 hO4 hO5 HI hb1 HCI hli
   obtain ⟨V2, rfl⟩ : ∃ x : World, x = w1 := ⟨_, rfl⟩
   have hkl : k < ys.length := by rw [HM.out]; exact hk
   obtain ⟨gy, oy, rfl, hlb, hcd⟩ := (G2.out.l 1 rfl).cell k hkl
   have hst := HST.out k
   obtain ⟨y, hy⟩ : ∃ x, ys[k]?.getD 0 = x := ⟨_, rfl⟩
   rw [hy] at hcd hst
   rw [HHE.out, HGK.out] at hst
   have HST2 := Lib.hid hst
   have hcy := hcd
   have hci := HCI2.out
   have hm1 := G2.out.c 2 1 rfl rfl
   have hm0 := G2.out.c 0 1 rfl rfl
   have hx1 := G2.out.c 1 0 rfl rfl
   have htk := (G2.out.rc 1 g rfl (rangeV (TT k) hgn)).1
   obtain ⟨tk, htk2⟩ : ∃ t, TT k g = t := ⟨_, rfl⟩
   rw [htk2] at htk
   have HTK := Lib.hid htk2
   have hgi : (g : Int) < (N : Int) := by omega
   have hki : (k : Int) < (ys.length : Int) := by omega
   have HY := Lib.hid hy
   clear hst htk2 hcd hy
   (repeat gi_step)
   clear hcy hci hm1 hm0 hx1 htk
   by_cases hc0 : hh = 0
   ·skip
    have hd0 : (hh == 0) = true := by simpa using hc0
    refine wpIn_region_inv (w := V2) 18 (fun _ _ => True) (fun _ W => Fr w.heap.size w W [(w.heap.size, [.slice a xs.length c, .slice (some ⟨gy, oy, none⟩) ys.length d]), (w.heap.size + 1, [.int .i64 (ax : Int)]), (w.heap.size + 1 + 1, [.slice as_ S.length cs_, .slice (some ⟨gd, 0, none⟩) N dd]), (w.heap.size + 1 + 1 + 1, [.slice (some ⟨gp, 0, none⟩) N N]), (P, [.slice ap xs.length cp])] [(.i64, a, xs), (.i64, (some ⟨gy, oy, none⟩), ys)] [⟨3, .slice as_ S.length cs_, S.length, S.map (Value.int .i64)⟩, ⟨2, .slice (some ⟨gd, 0, none⟩) N dd, N, ((List.range N).map (TT k)).map (Value.int .i64)⟩, ⟨3, .slice (some ⟨gp, 0, none⟩) N N, N, ((List.range N).map (PP k)).map (Value.int .i64)⟩, ⟨3, .slice ap xs.length cp, xs.length, xs.map (Value.int .i64)⟩] [(D, .deferred (some [])), (D + 1, .loop (R .busy none))] ∧ Below V2.heap.size V2 W) [] [(fun u _ => u = .slice (some ⟨gi, oi, none⟩) xs.length c1), (fun u _ => u = .int .i64 (ax : Int)), (fun u _ => u = .pointer (some ⟨gi, oi + ax, none⟩)), (fun u _ => u = .int .i64 hh), (fun u _ => u = .bool true), (fun u _ => u = .bool true), (fun u _ => u = undef), (fun u _ => u = undef), (fun u _ => u = undef), (fun u _ => u = undef), (fun u _ => u = undef), (fun u _ => u = undef), (fun u _ => u = undef), (fun u _ => u = undef), (fun u _ => u = undef), (fun u _ => u = undef), (fun u _ => u = undef), (fun u _ => u = .bool true)] [some 41, some 42, some 43, some 44, some 45, some 46, some 47, some 48, some 49, some 50, some 51, some 52, some 53, some 54, some 55, some 56, some 57, some 58] (by kernel_rfl) (by kernel_rfl) rfl (by kernel_rfl) (by kernel_rfl) (by decide) (by decide) (fun _ _ => trivial) trivial ⟨G2.out.drew, (Below.refl _ _).drew⟩ (BorneAll.at (.cons (borne_eq _) (.cons (borne_eq _) (.cons (borne_eq _) (.cons (borne_eq _) (.cons (borne_eq _) (.cons (borne_eq _) (.cons (borne_eq _) (.cons (borne_eq _) (.cons (borne_eq _) (.cons (borne_eq _) (.cons (borne_eq _) (.cons (borne_eq _) (.cons (borne_eq _) (.cons (borne_eq _) (.cons (borne_eq _) (.cons (borne_eq _) (.cons (borne_eq _) (.cons (borne_eq _) .nil))))))))))))))))))) (fun vs b hvl hvb => ?_)
    obtain ⟨x0, x1, x2, x3, x4, x5, x6, x7, x8, x9, x10, x11, x12, x13, x14, x15, x16, x17, rfl⟩ : ∃ x0 x1 x2 x3 x4 x5 x6 x7 x8 x9 x10 x11 x12 x13 x14 x15 x16 x17, vs = [x0, x1, x2, x3, x4, x5, x6, x7, x8, x9, x10, x11, x12, x13, x14, x15, x16, x17] := lst18 hvl
    clear hvl
    simp only [putAll, Act.put, List.setIfInBounds_toArray, List.set_cons_zero, List.set_cons_succ] at hvb
    subst hvb
    refine ⟨(.snoc (.snoc (.snoc (.snoc (.snoc (.snoc (.snoc (.snoc (.snoc (.snoc (.snoc (.snoc (.snoc (.snoc (.snoc (.snoc (.snoc (.snoc .zero (InvObIn.intro (d := (some 41)) (r := fun u _ => u = .slice (some ⟨gi, oi, none⟩) xs.length c1) 0 0 rfl rfl rfl (by kernel_rfl) (by kernel_rfl) rfl ?io10zx0)) (InvObIn.intro (d := (some 42)) (r := fun u _ => u = .int .i64 (ax : Int)) 0 0 rfl rfl rfl (by kernel_rfl) (by kernel_rfl) rfl ?io10zx1)) (InvObIn.intro (d := (some 43)) (r := fun u _ => u = .pointer (some ⟨gi, oi + ax, none⟩)) 0 0 rfl rfl rfl (by kernel_rfl) (by kernel_rfl) rfl ?io10zx2)) (InvObIn.intro (d := (some 44)) (r := fun u _ => u = .int .i64 hh) 0 0 rfl rfl rfl (by kernel_rfl) (by kernel_rfl) rfl ?io10zx3)) (InvObIn.intro (d := (some 45)) (r := fun u _ => u = .bool true) 0 0 rfl rfl rfl (by kernel_rfl) (by kernel_rfl) rfl ?io10zx4)) (InvObIn.intro (d := (some 46)) (r := fun u _ => u = .bool true) 0 0 rfl rfl rfl (by kernel_rfl) (by kernel_rfl) rfl ?io10zx5)) (InvObIn.intro (d := (some 47)) (r := fun u _ => u = undef) 0 0 rfl rfl rfl (by kernel_rfl) (by kernel_rfl) rfl ?io10zx6)) (InvObIn.intro (d := (some 48)) (r := fun u _ => u = undef) 0 0 rfl rfl rfl (by kernel_rfl) (by kernel_rfl) rfl ?io10zx7)) (InvObIn.intro (d := (some 49)) (r := fun u _ => u = undef) 0 0 rfl rfl rfl (by kernel_rfl) (by kernel_rfl) rfl ?io10zx8)) (InvObIn.intro (d := (some 50)) (r := fun u _ => u = undef) 0 0 rfl rfl rfl (by kernel_rfl) (by kernel_rfl) rfl ?io10zx9)) (InvObIn.intro (d := (some 51)) (r := fun u _ => u = undef) 0 0 rfl rfl rfl (by kernel_rfl) (by kernel_rfl) rfl ?io10zx10)) (InvObIn.intro (d := (some 52)) (r := fun u _ => u = undef) 0 0 rfl rfl rfl (by kernel_rfl) (by kernel_rfl) rfl ?io10zx11)) (InvObIn.intro (d := (some 53)) (r := fun u _ => u = undef) 0 0 rfl rfl rfl (by kernel_rfl) (by kernel_rfl) rfl ?io10zx12)) (InvObIn.intro (d := (some 54)) (r := fun u _ => u = undef) 0 0 rfl rfl rfl (by kernel_rfl) (by kernel_rfl) rfl ?io10zx13)) (InvObIn.intro (d := (some 55)) (r := fun u _ => u = undef) 0 0 rfl rfl rfl (by kernel_rfl) (by kernel_rfl) rfl ?io10zx14)) (InvObIn.intro (d := (some 56)) (r := fun u _ => u = undef) 0 0 rfl rfl rfl (by kernel_rfl) (by kernel_rfl) rfl ?io10zx15)) (InvObIn.intro (d := (some 57)) (r := fun u _ => u = undef) 0 0 rfl rfl rfl (by kernel_rfl) (by kernel_rfl) rfl ?io10zx16)) (InvObIn.intro (d := (some 58)) (r := fun u _ => u = .bool true) 0 0 rfl rfl rfl (by kernel_rfl) (by kernel_rfl) rfl ?io10zx17)), ?iend10z⟩
    case io10zx0 =>
     intro k1 w1 hk0 hk1 hb1 hS hd KK hK
     clear hd
     simp only [Act.put, List.setIfInBounds_toArray, List.set_cons_zero, List.set_cons_succ] at hK
     go_simp
     first | exact hK.out _ _ trivial hS rfl | (have hk := hK.out _ _ trivial hS rfl; revert hk; go_simp)
    case io10zx1 =>
     intro k1 w1 hk0 hk1 hb1 hS hd KK hK
     clear hd
     have k0 := hS.1.c 1 0 rfl rfl
     simp only [Act.put, List.setIfInBounds_toArray, List.set_cons_zero, List.set_cons_succ] at hK
     go_simp
     first | exact hK.out _ _ trivial hS rfl | (have hk := hK.out _ _ trivial hS rfl; revert hk; go_simp)
    case io10zx2 =>
     intro k1 w1 hk0 hk1 hb1 hS hd KK hK
     have d0 : x0 = .slice (some ⟨gi, oi, none⟩) xs.length c1 := hd 0 (by kernel_rfl)
     have d1 : x1 = .int .i64 (ax : Int) := hd 1 (by kernel_rfl)
     clear hd
     subst d0
     subst d1
     simp only [Act.put, List.setIfInBounds_toArray, List.set_cons_zero, List.set_cons_succ] at hK
     go_simp
     first | exact hK.out _ _ trivial hS rfl | (have hk := hK.out _ _ trivial hS rfl; revert hk; go_simp)
    case io10zx3 =>
     intro k1 w1 hk0 hk1 hb1 hS hd KK hK
     have d2 : x2 = .pointer (some ⟨gi, oi + ax, none⟩) := hd 2 (by kernel_rfl)
     clear hd
     subst d2
     have hcx := (hS.2.cell (p := ⟨gi, oi + ax, none⟩) hli2).trans HCI2.out
     simp only [Act.put, List.setIfInBounds_toArray, List.set_cons_zero, List.set_cons_succ] at hK
     go_simp
     first | exact hK.out _ _ trivial hS rfl | (have hk := hK.out _ _ trivial hS rfl; revert hk; go_simp)
    case io10zx4 =>
     intro k1 w1 hk0 hk1 hb1 hS hd KK hK
     have d3 : x3 = .int .i64 hh := hd 3 (by kernel_rfl)
     clear hd
     subst d3
     simp only [Act.put, List.setIfInBounds_toArray, List.set_cons_zero, List.set_cons_succ] at hK
     go_simp
     first | exact hK.out _ _ trivial hS rfl | (have hk := hK.out _ _ trivial hS rfl; revert hk; go_simp)
    case io10zx5 =>
     intro k1 w1 hk0 hk1 hb1 hS hd KK hK
     have d4 : x4 = .bool true := hd 4 (by kernel_rfl)
     clear hd
     subst d4
     simp only [Act.put, List.setIfInBounds_toArray, List.set_cons_zero, List.set_cons_succ] at hK
     go_simp
     first | exact hK.out _ _ trivial hS rfl | (have hk := hK.out _ _ trivial hS rfl; revert hk; go_simp)
    case io10zx6 =>
     intro k1 w1 hk0 hk1 hb1 hS hd KK hK
     have d5 : x5 = .bool true := hd 5 (by kernel_rfl)
     clear hd
     subst d5
     simp only [Act.put, List.setIfInBounds_toArray, List.set_cons_zero, List.set_cons_succ] at hK
     go_simp
     first | exact hK.out _ _ trivial hS rfl | (have hk := hK.out _ _ trivial hS rfl; revert hk; go_simp)
    case io10zx7 =>
     intro k1 w1 hk0 hk1 hb1 hS hd KK hK
     have d5 : x5 = .bool true := hd 5 (by kernel_rfl)
     have d6 : x6 = undef := hd 6 (by kernel_rfl)
     clear hd
     subst d5
     subst d6
     simp only [Act.put, List.setIfInBounds_toArray, List.set_cons_zero, List.set_cons_succ] at hK
     go_simp
     first | exact hK.out _ _ trivial hS rfl | (have hk := hK.out _ _ trivial hS rfl; revert hk; go_simp)
    case io10zx8 =>
     intro k1 w1 hk0 hk1 hb1 hS hd KK hK
     have d5 : x5 = .bool true := hd 5 (by kernel_rfl)
     clear hd
     subst d5
     simp only [Act.put, List.setIfInBounds_toArray, List.set_cons_zero, List.set_cons_succ] at hK
     go_simp
     first | exact hK.out _ _ trivial hS rfl | (have hk := hK.out _ _ trivial hS rfl; revert hk; go_simp)
    case io10zx9 =>
     intro k1 w1 hk0 hk1 hb1 hS hd KK hK
     have d5 : x5 = .bool true := hd 5 (by kernel_rfl)
     have d7 : x7 = undef := hd 7 (by kernel_rfl)
     have d8 : x8 = undef := hd 8 (by kernel_rfl)
     clear hd
     subst d5
     subst d7
     subst d8
     simp only [Act.put, List.setIfInBounds_toArray, List.set_cons_zero, List.set_cons_succ] at hK
     go_simp
     first | exact hK.out _ _ trivial hS rfl | (have hk := hK.out _ _ trivial hS rfl; revert hk; go_simp)
    case io10zx10 =>
     intro k1 w1 hk0 hk1 hb1 hS hd KK hK
     have d5 : x5 = .bool true := hd 5 (by kernel_rfl)
     have d9 : x9 = undef := hd 9 (by kernel_rfl)
     clear hd
     subst d5
     subst d9
     simp only [Act.put, List.setIfInBounds_toArray, List.set_cons_zero, List.set_cons_succ] at hK
     go_simp
     first | exact hK.out _ _ trivial hS rfl | (have hk := hK.out _ _ trivial hS rfl; revert hk; go_simp)
    case io10zx11 =>
     intro k1 w1 hk0 hk1 hb1 hS hd KK hK
     have d5 : x5 = .bool true := hd 5 (by kernel_rfl)
     clear hd
     subst d5
     simp only [Act.put, List.setIfInBounds_toArray, List.set_cons_zero, List.set_cons_succ] at hK
     go_simp
     first | exact hK.out _ _ trivial hS rfl | (have hk := hK.out _ _ trivial hS rfl; revert hk; go_simp)
    case io10zx12 =>
     intro k1 w1 hk0 hk1 hb1 hS hd KK hK
     have d5 : x5 = .bool true := hd 5 (by kernel_rfl)
     have d11 : x11 = undef := hd 11 (by kernel_rfl)
     clear hd
     subst d5
     subst d11
     simp only [Act.put, List.setIfInBounds_toArray, List.set_cons_zero, List.set_cons_succ] at hK
     go_simp
     first | exact hK.out _ _ trivial hS rfl | (have hk := hK.out _ _ trivial hS rfl; revert hk; go_simp)
    case io10zx13 =>
     intro k1 w1 hk0 hk1 hb1 hS hd KK hK
     have d5 : x5 = .bool true := hd 5 (by kernel_rfl)
     clear hd
     subst d5
     simp only [Act.put, List.setIfInBounds_toArray, List.set_cons_zero, List.set_cons_succ] at hK
     go_simp
     first | exact hK.out _ _ trivial hS rfl | (have hk := hK.out _ _ trivial hS rfl; revert hk; go_simp)
    case io10zx14 =>
     intro k1 w1 hk0 hk1 hb1 hS hd KK hK
     have d5 : x5 = .bool true := hd 5 (by kernel_rfl)
     have d12 : x12 = undef := hd 12 (by kernel_rfl)
     have d13 : x13 = undef := hd 13 (by kernel_rfl)
     clear hd
     subst d5
     subst d12
     subst d13
     simp only [Act.put, List.setIfInBounds_toArray, List.set_cons_zero, List.set_cons_succ] at hK
     go_simp
     first | exact hK.out _ _ trivial hS rfl | (have hk := hK.out _ _ trivial hS rfl; revert hk; go_simp)
    case io10zx15 =>
     intro k1 w1 hk0 hk1 hb1 hS hd KK hK
     have d5 : x5 = .bool true := hd 5 (by kernel_rfl)
     have d14 : x14 = undef := hd 14 (by kernel_rfl)
     clear hd
     subst d5
     subst d14
     simp only [Act.put, List.setIfInBounds_toArray, List.set_cons_zero, List.set_cons_succ] at hK
     go_simp
     first | exact hK.out _ _ trivial hS rfl | (have hk := hK.out _ _ trivial hS rfl; revert hk; go_simp)
    case io10zx16 =>
     intro k1 w1 hk0 hk1 hb1 hS hd KK hK
     have d5 : x5 = .bool true := hd 5 (by kernel_rfl)
     have d10 : x10 = undef := hd 10 (by kernel_rfl)
     have d15 : x15 = undef := hd 15 (by kernel_rfl)
     clear hd
     subst d5
     subst d10
     subst d15
     simp only [Act.put, List.setIfInBounds_toArray, List.set_cons_zero, List.set_cons_succ] at hK
     go_simp
     first | exact hK.out _ _ trivial hS rfl | (have hk := hK.out _ _ trivial hS rfl; revert hk; go_simp)
    case io10zx17 =>
     intro k1 w1 hk0 hk1 hb1 hS hd KK hK
     have d5 : x5 = .bool true := hd 5 (by kernel_rfl)
     have d16 : x16 = undef := hd 16 (by kernel_rfl)
     clear hd
     subst d5
     subst d16
     simp only [Act.put, List.setIfInBounds_toArray, List.set_cons_zero, List.set_cons_succ] at hK
     go_simp
     first | exact hK.out _ _ trivial hS rfl | (have hk := hK.out _ _ trivial hS rfl; revert hk; go_simp)
    case iend10z =>
     intro w1 hb1 hS hR
     have d0 : x0 = .slice (some ⟨gi, oi, none⟩) xs.length c1 := hR 0 (by decide)
     have d1 : x1 = .int .i64 (ax : Int) := hR 1 (by decide)
     have d2 : x2 = .pointer (some ⟨gi, oi + ax, none⟩) := hR 2 (by decide)
     have d3 : x3 = .int .i64 hh := hR 3 (by decide)
     have d4 : x4 = .bool true := hR 4 (by decide)
     have d5 : x5 = .bool true := hR 5 (by decide)
     have d6 : x6 = undef := hR 6 (by decide)
     have d7 : x7 = undef := hR 7 (by decide)
     have d8 : x8 = undef := hR 8 (by decide)
     have d9 : x9 = undef := hR 9 (by decide)
     have d10 : x10 = undef := hR 10 (by decide)
     have d11 : x11 = undef := hR 11 (by decide)
     have d12 : x12 = undef := hR 12 (by decide)
     have d13 : x13 = undef := hR 13 (by decide)
     have d14 : x14 = undef := hR 14 (by decide)
     have d15 : x15 = undef := hR 15 (by decide)
     have d16 : x16 = undef := hR 16 (by decide)
     have d17 : x17 = .bool true := hR 17 (by decide)
     clear hR
     subst d0
     subst d1
     subst d2
     subst d3
     subst d4
     subst d5
     subst d6
     subst d7
     subst d8
     subst d9
     subst d10
     subst d11
     subst d12
     subst d13
     subst d14
     subst d15
     subst d16
     subst d17
     try simp only [putAll, Act.put, List.setIfInBounds_toArray, List.set_cons_zero, List.set_cons_succ]
     have G3 := Lib.hid hS.1
     have HCI3 := Lib.hid ((hS.2.cell (p := ⟨gi, oi + ax, none⟩) hli2).trans HCI2.out)
     have hli3 : gi < w1.heap.size := Nat.lt_of_lt_of_le hli2 hS.2.size
     clear hS hb1 G2 HCI2 hli2
     obtain ⟨V3, rfl⟩ : ∃ x : World, x = w1 := ⟨_, rfl⟩
     (repeat gi_step)
     have hcnd : hh = 0 ∨ tk < y := .inl hc0
     have hsg := (HST2.out g).2.1 rfl (by rw [HTK.out]; exact hcnd)
     have HF1 := Lib.hid (fillC y hgn hsg.1 (fun i hi => ((HST2.out i).1 (fun h => hi h.symm)).1))
     have HF2 := Lib.hid (fillC hh hgn hsg.2 (fun i hi => ((HST2.out i).1 (fun h => hi h.symm)).2))
     clear hsg hcnd
     refine wpIn_region_inv (w := V3) 18 (fun _ _ => True) (fun k9 W => (k9 = 0 → Fr w.heap.size w W [(w.heap.size, [.slice a xs.length c, .slice (some ⟨gy, oy, none⟩) ys.length d]), (w.heap.size + 1, [.int .i64 (ax : Int)]), (w.heap.size + 1 + 1, [.slice as_ S.length cs_, .slice (some ⟨gd, 0, none⟩) N dd]), (w.heap.size + 1 + 1 + 1, [.slice (some ⟨gp, 0, none⟩) N N]), (P, [.slice ap xs.length cp])] [(.i64, a, xs), (.i64, (some ⟨gy, oy, none⟩), ys)] [⟨3, .slice as_ S.length cs_, S.length, S.map (Value.int .i64)⟩, ⟨2, .slice (some ⟨gd, 0, none⟩) N dd, N, ((List.range N).map (TT k)).map (Value.int .i64)⟩, ⟨3, .slice (some ⟨gp, 0, none⟩) N N, N, ((List.range N).map (PP k)).map (Value.int .i64)⟩, ⟨3, .slice ap xs.length cp, xs.length, xs.map (Value.int .i64)⟩] [(D, .deferred (some [])), (D + 1, .loop (R .busy none))] ∧ Below V3.heap.size V3 W) ∧ (k9 = 1 → Fr w.heap.size w W [(w.heap.size, [.slice a xs.length c, .slice (some ⟨gy, oy, none⟩) ys.length d]), (w.heap.size + 1, [.int .i64 (ax : Int)]), (w.heap.size + 1 + 1, [.slice as_ S.length cs_, .slice (some ⟨gd, 0, none⟩) N dd]), (w.heap.size + 1 + 1 + 1, [.slice (some ⟨gp, 0, none⟩) N N]), (P, [.slice ap xs.length cp])] [(.i64, a, xs), (.i64, (some ⟨gy, oy, none⟩), ys)] [⟨3, .slice as_ S.length cs_, S.length, S.map (Value.int .i64)⟩, ⟨2, .slice (some ⟨gd, 0, none⟩) N dd, N, ((List.range N).map (TT (k + 1))).map (Value.int .i64)⟩, ⟨3, .slice (some ⟨gp, 0, none⟩) N N, N, ((List.range N).map (PP k)).map (Value.int .i64)⟩, ⟨3, .slice ap xs.length cp, xs.length, xs.map (Value.int .i64)⟩] [(D, .deferred (some [])), (D + 1, .loop (R .busy none))]) ∧ (k9 = 2 → Fr w.heap.size w W [(w.heap.size, [.slice a xs.length c, .slice (some ⟨gy, oy, none⟩) ys.length d]), (w.heap.size + 1, [.int .i64 (ax : Int)]), (w.heap.size + 1 + 1, [.slice as_ S.length cs_, .slice (some ⟨gd, 0, none⟩) N dd]), (w.heap.size + 1 + 1 + 1, [.slice (some ⟨gp, 0, none⟩) N N]), (P, [.slice ap xs.length cp])] [(.i64, a, xs), (.i64, (some ⟨gy, oy, none⟩), ys)] [⟨3, .slice as_ S.length cs_, S.length, S.map (Value.int .i64)⟩, ⟨2, .slice (some ⟨gd, 0, none⟩) N dd, N, ((List.range N).map (TT (k + 1))).map (Value.int .i64)⟩, ⟨3, .slice (some ⟨gp, 0, none⟩) N N, N, ((List.range N).map (PP (k + 1))).map (Value.int .i64)⟩, ⟨3, .slice ap xs.length cp, xs.length, xs.map (Value.int .i64)⟩] [(D, .deferred (some [])), (D + 1, .loop (R .busy none))])) [15, 17] [(fun u _ => u = .pointer (some ⟨w.heap.size + 1 + 1, 1, none⟩)), (fun u _ => u = .slice (some ⟨gd, 0, none⟩) N dd), (fun u _ => u = .int .i64 (g : Int)), (fun u _ => u = .slice (some ⟨gp, 0, none⟩) N N), (fun u _ => u = .int .i64 (g : Int)), (fun u _ => u = .pointer (some ⟨w.heap.size, 1, none⟩)), (fun u _ => u = .slice (some ⟨gy, oy, none⟩) ys.length d), (fun u _ => u = .int .i64 (k : Int)), (fun u _ => u = .pointer (some ⟨gy, oy + k, none⟩)), (fun u _ => u = .int .i64 y), (fun u _ => u = .slice (some ⟨gi, oi, none⟩) xs.length c1), (fun u _ => u = .int .i64 (ax : Int)), (fun u _ => u = .pointer (some ⟨gi, oi + ax, none⟩)), (fun u _ => u = .int .i64 hh), (fun u _ => u = .pointer (some ⟨gd, g, none⟩)), (fun _ _ => True), (fun u _ => u = .pointer (some ⟨gp, g, none⟩)), (fun _ _ => True)] [some 59, some 60, some 61, some 62, some 63, some 64, some 65, some 66, some 67, some 68, some 69, some 70, some 71, some 72, some 73, none, some 74, none] (by kernel_rfl) (by kernel_rfl) rfl (by kernel_rfl) (by kernel_rfl) (by decide) (by decide) (fun _ _ => trivial) trivial ⟨fun _ => ⟨G3.out.drew, (Below.refl _ _).drew⟩, fun h => absurd h (by decide), fun h => absurd h (by decide)⟩ (BorneAll.at (.cons (borne_eq _) (.cons (borne_eq _) (.cons (borne_eq _) (.cons (borne_eq _) (.cons (borne_eq _) (.cons (borne_eq _) (.cons (borne_eq _) (.cons (borne_eq _) (.cons (borne_eq _) (.cons (borne_eq _) (.cons (borne_eq _) (.cons (borne_eq _) (.cons (borne_eq _) (.cons (borne_eq _) (.cons (borne_eq _) (.cons (fun _ _ _ _ _ => trivial) (.cons (borne_eq _) (.cons (fun _ _ _ _ _ => trivial) .nil))))))))))))))))))) (fun vs b hvl hvb => ?_)
     obtain ⟨x0, x1, x2, x3, x4, x5, x6, x7, x8, x9, x10, x11, x12, x13, x14, x15, x16, x17, rfl⟩ : ∃ x0 x1 x2 x3 x4 x5 x6 x7 x8 x9 x10 x11 x12 x13 x14 x15 x16 x17, vs = [x0, x1, x2, x3, x4, x5, x6, x7, x8, x9, x10, x11, x12, x13, x14, x15, x16, x17] := lst18 hvl
     clear hvl
     simp only [putAll, Act.put, List.setIfInBounds_toArray, List.set_cons_zero, List.set_cons_succ] at hvb
     subst hvb
     refine ⟨(.snoc (.snoc (.snoc (.snoc (.snoc (.snoc (.snoc (.snoc (.snoc (.snoc (.snoc (.snoc (.snoc (.snoc (.snoc (.snoc (.snoc (.snoc .zero (InvObIn.intro (d := (some 59)) (r := fun u _ => u = .pointer (some ⟨w.heap.size + 1 + 1, 1, none⟩)) 0 0 rfl rfl rfl (by kernel_rfl) (by kernel_rfl) rfl ?io11zx0)) (InvObIn.intro (d := (some 60)) (r := fun u _ => u = .slice (some ⟨gd, 0, none⟩) N dd) 0 0 rfl rfl rfl (by kernel_rfl) (by kernel_rfl) rfl ?io11zx1)) (InvObIn.intro (d := (some 61)) (r := fun u _ => u = .int .i64 (g : Int)) 0 0 rfl rfl rfl (by kernel_rfl) (by kernel_rfl) rfl ?io11zx2)) (InvObIn.intro (d := (some 62)) (r := fun u _ => u = .slice (some ⟨gp, 0, none⟩) N N) 0 1 rfl rfl rfl (by kernel_rfl) (by kernel_rfl) rfl ?io11zx3)) (InvObIn.intro (d := (some 63)) (r := fun u _ => u = .int .i64 (g : Int)) 0 1 rfl rfl rfl (by kernel_rfl) (by kernel_rfl) rfl ?io11zx4)) (InvObIn.intro (d := (some 64)) (r := fun u _ => u = .pointer (some ⟨w.heap.size, 1, none⟩)) 0 0 rfl rfl rfl (by kernel_rfl) (by kernel_rfl) rfl ?io11zx5)) (InvObIn.intro (d := (some 65)) (r := fun u _ => u = .slice (some ⟨gy, oy, none⟩) ys.length d) 0 0 rfl rfl rfl (by kernel_rfl) (by kernel_rfl) rfl ?io11zx6)) (InvObIn.intro (d := (some 66)) (r := fun u _ => u = .int .i64 (k : Int)) 0 0 rfl rfl rfl (by kernel_rfl) (by kernel_rfl) rfl ?io11zx7)) (InvObIn.intro (d := (some 67)) (r := fun u _ => u = .pointer (some ⟨gy, oy + k, none⟩)) 0 0 rfl rfl rfl (by kernel_rfl) (by kernel_rfl) rfl ?io11zx8)) (InvObIn.intro (d := (some 68)) (r := fun u _ => u = .int .i64 y) 0 0 rfl rfl rfl (by kernel_rfl) (by kernel_rfl) rfl ?io11zx9)) (InvObIn.intro (d := (some 69)) (r := fun u _ => u = .slice (some ⟨gi, oi, none⟩) xs.length c1) 0 0 rfl rfl rfl (by kernel_rfl) (by kernel_rfl) rfl ?io11zx10)) (InvObIn.intro (d := (some 70)) (r := fun u _ => u = .int .i64 (ax : Int)) 0 0 rfl rfl rfl (by kernel_rfl) (by kernel_rfl) rfl ?io11zx11)) (InvObIn.intro (d := (some 71)) (r := fun u _ => u = .pointer (some ⟨gi, oi + ax, none⟩)) 0 0 rfl rfl rfl (by kernel_rfl) (by kernel_rfl) rfl ?io11zx12)) (InvObIn.intro (d := (some 72)) (r := fun u _ => u = .int .i64 hh) 0 0 rfl rfl rfl (by kernel_rfl) (by kernel_rfl) rfl ?io11zx13)) (InvObIn.intro (d := (some 73)) (r := fun u _ => u = .pointer (some ⟨gd, g, none⟩)) 0 0 rfl rfl rfl (by kernel_rfl) (by kernel_rfl) rfl ?io11zx14)) (InvObIn.put (d := none) (r := fun _ _ => True) 0 rfl rfl rfl (by kernel_rfl) (by kernel_rfl) rfl ?io11zx15)) (InvObIn.intro (d := (some 74)) (r := fun u _ => u = .pointer (some ⟨gp, g, none⟩)) 1 1 rfl rfl rfl (by kernel_rfl) (by kernel_rfl) rfl ?io11zx16)) (InvObIn.put (d := none) (r := fun _ _ => True) 1 rfl rfl rfl (by kernel_rfl) (by kernel_rfl) rfl ?io11zx17)), ?iend11z⟩
     case io11zx0 =>
      intro k1 w1 hk0 hk1 hb1 hS hd KK hK
      clear hd
      simp only [Act.put, List.setIfInBounds_toArray, List.set_cons_zero, List.set_cons_succ] at hK
      go_simp
      first | exact hK.out _ _ trivial hS rfl | (have hk := hK.out _ _ trivial hS rfl; revert hk; go_simp)
     case io11zx1 =>
      intro k1 w1 hk0 hk1 hb1 hS hd KK hK
      have d0 : x0 = .pointer (some ⟨w.heap.size + 1 + 1, 1, none⟩) := hd 0 (by kernel_rfl)
      clear hd
      subst d0
      have hF := (hS.1 (by omega)).1
      have k1 := hF.c 2 1 rfl rfl
      simp only [Act.put, List.setIfInBounds_toArray, List.set_cons_zero, List.set_cons_succ] at hK
      go_simp
      first | exact hK.out _ _ trivial hS rfl | (have hk := hK.out _ _ trivial hS rfl; revert hk; go_simp)
     case io11zx2 =>
      intro k1 w1 hk0 hk1 hb1 hS hd KK hK
      clear hd
      simp only [Act.put, List.setIfInBounds_toArray, List.set_cons_zero, List.set_cons_succ] at hK
      go_simp
      first | exact hK.out _ _ trivial hS rfl | (have hk := hK.out _ _ trivial hS rfl; revert hk; go_simp)
     case io11zx3 =>
      intro k1 w1 hk0 hk1 hb1 hS hd KK hK
      clear hd
      have k0 : w1.cell? ⟨w.heap.size + 1 + 1 + 1, 0, none⟩ = some (.slice (some ⟨gp, 0, none⟩) N N) := by rcases Nat.eq_zero_or_pos k1 with h | h; exact (hS.1 h).1.c 3 0 rfl rfl; exact (hS.2.1 (by omega)).c 3 0 rfl rfl
      simp only [Act.put, List.setIfInBounds_toArray, List.set_cons_zero, List.set_cons_succ] at hK
      go_simp
      first | exact hK.out _ _ trivial hS rfl | (have hk := hK.out _ _ trivial hS rfl; revert hk; go_simp)
     case io11zx4 =>
      intro k1 w1 hk0 hk1 hb1 hS hd KK hK
      clear hd
      simp only [Act.put, List.setIfInBounds_toArray, List.set_cons_zero, List.set_cons_succ] at hK
      go_simp
      first | exact hK.out _ _ trivial hS rfl | (have hk := hK.out _ _ trivial hS rfl; revert hk; go_simp)
     case io11zx5 =>
      intro k1 w1 hk0 hk1 hb1 hS hd KK hK
      clear hd
      simp only [Act.put, List.setIfInBounds_toArray, List.set_cons_zero, List.set_cons_succ] at hK
      go_simp
      first | exact hK.out _ _ trivial hS rfl | (have hk := hK.out _ _ trivial hS rfl; revert hk; go_simp)
     case io11zx6 =>
      intro k1 w1 hk0 hk1 hb1 hS hd KK hK
      have d5 : x5 = .pointer (some ⟨w.heap.size, 1, none⟩) := hd 5 (by kernel_rfl)
      clear hd
      subst d5
      have hF := (hS.1 (by omega)).1
      have k1 := hF.c 0 1 rfl rfl
      simp only [Act.put, List.setIfInBounds_toArray, List.set_cons_zero, List.set_cons_succ] at hK
      go_simp
      first | exact hK.out _ _ trivial hS rfl | (have hk := hK.out _ _ trivial hS rfl; revert hk; go_simp)
     case io11zx7 =>
      intro k1 w1 hk0 hk1 hb1 hS hd KK hK
      clear hd
      simp only [Act.put, List.setIfInBounds_toArray, List.set_cons_zero, List.set_cons_succ] at hK
      go_simp
      first | exact hK.out _ _ trivial hS rfl | (have hk := hK.out _ _ trivial hS rfl; revert hk; go_simp)
     case io11zx8 =>
      intro k1 w1 hk0 hk1 hb1 hS hd KK hK
      have d6 : x6 = .slice (some ⟨gy, oy, none⟩) ys.length d := hd 6 (by kernel_rfl)
      have d7 : x7 = .int .i64 (k : Int) := hd 7 (by kernel_rfl)
      clear hd
      subst d6
      subst d7
      simp only [Act.put, List.setIfInBounds_toArray, List.set_cons_zero, List.set_cons_succ] at hK
      go_simp
      first | exact hK.out _ _ trivial hS rfl | (have hk := hK.out _ _ trivial hS rfl; revert hk; go_simp)
     case io11zx9 =>
      intro k1 w1 hk0 hk1 hb1 hS hd KK hK
      have d8 : x8 = .pointer (some ⟨gy, oy + k, none⟩) := hd 8 (by kernel_rfl)
      clear hd
      subst d8
      have hF := (hS.1 (by omega)).1
      obtain ⟨b9, o9, he, hl9, hcx⟩ := (hF.l 1 rfl).cell k hkl
      cases he
      rw [HY.out] at hcx
      simp only [Act.put, List.setIfInBounds_toArray, List.set_cons_zero, List.set_cons_succ] at hK
      go_simp
      first | exact hK.out _ _ trivial hS rfl | (have hk := hK.out _ _ trivial hS rfl; revert hk; go_simp)
     case io11zx10 =>
      intro k1 w1 hk0 hk1 hb1 hS hd KK hK
      clear hd
      simp only [Act.put, List.setIfInBounds_toArray, List.set_cons_zero, List.set_cons_succ] at hK
      go_simp
      first | exact hK.out _ _ trivial hS rfl | (have hk := hK.out _ _ trivial hS rfl; revert hk; go_simp)
     case io11zx11 =>
      intro k1 w1 hk0 hk1 hb1 hS hd KK hK
      clear hd
      have hF := (hS.1 (by omega)).1
      have k0 := hF.c 1 0 rfl rfl
      simp only [Act.put, List.setIfInBounds_toArray, List.set_cons_zero, List.set_cons_succ] at hK
      go_simp
      first | exact hK.out _ _ trivial hS rfl | (have hk := hK.out _ _ trivial hS rfl; revert hk; go_simp)
     case io11zx12 =>
      intro k1 w1 hk0 hk1 hb1 hS hd KK hK
      have d10 : x10 = .slice (some ⟨gi, oi, none⟩) xs.length c1 := hd 10 (by kernel_rfl)
      have d11 : x11 = .int .i64 (ax : Int) := hd 11 (by kernel_rfl)
      clear hd
      subst d10
      subst d11
      simp only [Act.put, List.setIfInBounds_toArray, List.set_cons_zero, List.set_cons_succ] at hK
      go_simp
      first | exact hK.out _ _ trivial hS rfl | (have hk := hK.out _ _ trivial hS rfl; revert hk; go_simp)
     case io11zx13 =>
      intro k1 w1 hk0 hk1 hb1 hS hd KK hK
      have d12 : x12 = .pointer (some ⟨gi, oi + ax, none⟩) := hd 12 (by kernel_rfl)
      clear hd
      subst d12
      have hcx := ((hS.1 (by omega)).2.cell (p := ⟨gi, oi + ax, none⟩) hli3).trans HCI3.out
      simp only [Act.put, List.setIfInBounds_toArray, List.set_cons_zero, List.set_cons_succ] at hK
      go_simp
      first | exact hK.out _ _ trivial hS rfl | (have hk := hK.out _ _ trivial hS rfl; revert hk; go_simp)
     case io11zx14 =>
      intro k1 w1 hk0 hk1 hb1 hS hd KK hK
      have d0 : x0 = .pointer (some ⟨w.heap.size + 1 + 1, 1, none⟩) := hd 0 (by kernel_rfl)
      have d1 : x1 = .slice (some ⟨gd, 0, none⟩) N dd := hd 1 (by kernel_rfl)
      have d2 : x2 = .int .i64 (g : Int) := hd 2 (by kernel_rfl)
      have d5 : x5 = .pointer (some ⟨w.heap.size, 1, none⟩) := hd 5 (by kernel_rfl)
      have d6 : x6 = .slice (some ⟨gy, oy, none⟩) ys.length d := hd 6 (by kernel_rfl)
      have d7 : x7 = .int .i64 (k : Int) := hd 7 (by kernel_rfl)
      have d8 : x8 = .pointer (some ⟨gy, oy + k, none⟩) := hd 8 (by kernel_rfl)
      have d9 : x9 = .int .i64 y := hd 9 (by kernel_rfl)
      have d13 : x13 = .int .i64 hh := hd 13 (by kernel_rfl)
      clear hd
      subst d0
      subst d1
      subst d2
      subst d5
      subst d6
      subst d7
      subst d8
      subst d9
      subst d13
      simp only [Act.put, List.setIfInBounds_toArray, List.set_cons_zero, List.set_cons_succ] at hK
      go_simp
      first | exact hK.out _ _ trivial hS rfl | (have hk := hK.out _ _ trivial hS rfl; revert hk; go_simp)
     case io11zx15 =>
      intro w1 hb1 hS hd KK hK
      have d0 : x0 = .pointer (some ⟨w.heap.size + 1 + 1, 1, none⟩) := hd 0 (by kernel_rfl)
      have d1 : x1 = .slice (some ⟨gd, 0, none⟩) N dd := hd 1 (by kernel_rfl)
      have d2 : x2 = .int .i64 (g : Int) := hd 2 (by kernel_rfl)
      have d5 : x5 = .pointer (some ⟨w.heap.size, 1, none⟩) := hd 5 (by kernel_rfl)
      have d6 : x6 = .slice (some ⟨gy, oy, none⟩) ys.length d := hd 6 (by kernel_rfl)
      have d7 : x7 = .int .i64 (k : Int) := hd 7 (by kernel_rfl)
      have d8 : x8 = .pointer (some ⟨gy, oy + k, none⟩) := hd 8 (by kernel_rfl)
      have d9 : x9 = .int .i64 y := hd 9 (by kernel_rfl)
      have d13 : x13 = .int .i64 hh := hd 13 (by kernel_rfl)
      have d14 : x14 = .pointer (some ⟨gd, g, none⟩) := hd 14 (by kernel_rfl)
      clear hd
      subst d0
      subst d1
      subst d2
      subst d5
      subst d6
      subst d7
      subst d8
      subst d9
      subst d13
      subst d14
      have hF := (hS.1 rfl).1
      obtain ⟨kc, kf⟩ := hF.rc 1 g rfl (rangeV (TT k) hgn)
      simp only [Act.put, List.setIfInBounds_toArray, List.set_cons_zero, List.set_cons_succ] at hK
      go_simp
      first | exact hK.out undef _ trivial ⟨fun h => absurd h (by decide), fun _ => by have hp := hF.put 1 g rfl (.int .i64 y); simp only [List.set_cons_zero, List.set_cons_succ] at hp; rw [HF1.out] at hp; exact hp, fun h => absurd h (by decide)⟩ trivial | (have hk := hK.out undef _ trivial ⟨fun h => absurd h (by decide), fun _ => by have hp := hF.put 1 g rfl (.int .i64 y); simp only [List.set_cons_zero, List.set_cons_succ] at hp; rw [HF1.out] at hp; exact hp, fun h => absurd h (by decide)⟩ trivial; revert hk; go_simp)
     case io11zx16 =>
      intro k1 w1 hk0 hk1 hb1 hS hd KK hK
      have d0 : x0 = .pointer (some ⟨w.heap.size + 1 + 1, 1, none⟩) := hd 0 (by kernel_rfl)
      have d1 : x1 = .slice (some ⟨gd, 0, none⟩) N dd := hd 1 (by kernel_rfl)
      have d2 : x2 = .int .i64 (g : Int) := hd 2 (by kernel_rfl)
      have d3 : x3 = .slice (some ⟨gp, 0, none⟩) N N := hd 3 (by kernel_rfl)
      have d4 : x4 = .int .i64 (g : Int) := hd 4 (by kernel_rfl)
      have d5 : x5 = .pointer (some ⟨w.heap.size, 1, none⟩) := hd 5 (by kernel_rfl)
      have d6 : x6 = .slice (some ⟨gy, oy, none⟩) ys.length d := hd 6 (by kernel_rfl)
      have d7 : x7 = .int .i64 (k : Int) := hd 7 (by kernel_rfl)
      have d8 : x8 = .pointer (some ⟨gy, oy + k, none⟩) := hd 8 (by kernel_rfl)
      have d9 : x9 = .int .i64 y := hd 9 (by kernel_rfl)
      have d10 : x10 = .slice (some ⟨gi, oi, none⟩) xs.length c1 := hd 10 (by kernel_rfl)
      have d11 : x11 = .int .i64 (ax : Int) := hd 11 (by kernel_rfl)
      have d12 : x12 = .pointer (some ⟨gi, oi + ax, none⟩) := hd 12 (by kernel_rfl)
      have d13 : x13 = .int .i64 hh := hd 13 (by kernel_rfl)
      have d14 : x14 = .pointer (some ⟨gd, g, none⟩) := hd 14 (by kernel_rfl)
      clear hd
      subst d0
      subst d1
      subst d2
      subst d3
      subst d4
      subst d5
      subst d6
      subst d7
      subst d8
      subst d9
      subst d10
      subst d11
      subst d12
      subst d13
      subst d14
      simp only [Act.put, List.setIfInBounds_toArray, List.set_cons_zero, List.set_cons_succ] at hK
      go_simp
      first | exact hK.out _ _ trivial hS rfl | (have hk := hK.out _ _ trivial hS rfl; revert hk; go_simp)
     case io11zx17 =>
      intro w1 hb1 hS hd KK hK
      have d0 : x0 = .pointer (some ⟨w.heap.size + 1 + 1, 1, none⟩) := hd 0 (by kernel_rfl)
      have d1 : x1 = .slice (some ⟨gd, 0, none⟩) N dd := hd 1 (by kernel_rfl)
      have d2 : x2 = .int .i64 (g : Int) := hd 2 (by kernel_rfl)
      have d3 : x3 = .slice (some ⟨gp, 0, none⟩) N N := hd 3 (by kernel_rfl)
      have d4 : x4 = .int .i64 (g : Int) := hd 4 (by kernel_rfl)
      have d5 : x5 = .pointer (some ⟨w.heap.size, 1, none⟩) := hd 5 (by kernel_rfl)
      have d6 : x6 = .slice (some ⟨gy, oy, none⟩) ys.length d := hd 6 (by kernel_rfl)
      have d7 : x7 = .int .i64 (k : Int) := hd 7 (by kernel_rfl)
      have d8 : x8 = .pointer (some ⟨gy, oy + k, none⟩) := hd 8 (by kernel_rfl)
      have d9 : x9 = .int .i64 y := hd 9 (by kernel_rfl)
      have d10 : x10 = .slice (some ⟨gi, oi, none⟩) xs.length c1 := hd 10 (by kernel_rfl)
      have d11 : x11 = .int .i64 (ax : Int) := hd 11 (by kernel_rfl)
      have d12 : x12 = .pointer (some ⟨gi, oi + ax, none⟩) := hd 12 (by kernel_rfl)
      have d13 : x13 = .int .i64 hh := hd 13 (by kernel_rfl)
      have d14 : x14 = .pointer (some ⟨gd, g, none⟩) := hd 14 (by kernel_rfl)
      have d16 : x16 = .pointer (some ⟨gp, g, none⟩) := hd 16 (by kernel_rfl)
      clear hd
      subst d0
      subst d1
      subst d2
      subst d3
      subst d4
      subst d5
      subst d6
      subst d7
      subst d8
      subst d9
      subst d10
      subst d11
      subst d12
      subst d13
      subst d14
      subst d16
      have hF := hS.2.1 rfl
      obtain ⟨kc, kf⟩ := hF.rc 2 g rfl (rangeV (PP k) hgn)
      simp only [Act.put, List.setIfInBounds_toArray, List.set_cons_zero, List.set_cons_succ] at hK
      go_simp
      first | exact hK.out undef _ trivial ⟨fun h => absurd h (by decide), fun h => absurd h (by decide), fun _ => by have hp := hF.put 2 g rfl (.int .i64 hh); simp only [List.set_cons_zero, List.set_cons_succ] at hp; rw [HF2.out] at hp; exact hp⟩ trivial | (have hk := hK.out undef _ trivial ⟨fun h => absurd h (by decide), fun h => absurd h (by decide), fun _ => by have hp := hF.put 2 g rfl (.int .i64 hh); simp only [List.set_cons_zero, List.set_cons_succ] at hp; rw [HF2.out] at hp; exact hp⟩ trivial; revert hk; go_simp)
     case iend11z =>
      intro w1 hb1 hS hR
      have d0 : x0 = .pointer (some ⟨w.heap.size + 1 + 1, 1, none⟩) := hR 0 (by decide)
      have d1 : x1 = .slice (some ⟨gd, 0, none⟩) N dd := hR 1 (by decide)
      have d2 : x2 = .int .i64 (g : Int) := hR 2 (by decide)
      have d3 : x3 = .slice (some ⟨gp, 0, none⟩) N N := hR 3 (by decide)
      have d4 : x4 = .int .i64 (g : Int) := hR 4 (by decide)
      have d5 : x5 = .pointer (some ⟨w.heap.size, 1, none⟩) := hR 5 (by decide)
      have d6 : x6 = .slice (some ⟨gy, oy, none⟩) ys.length d := hR 6 (by decide)
      have d7 : x7 = .int .i64 (k : Int) := hR 7 (by decide)
      have d8 : x8 = .pointer (some ⟨gy, oy + k, none⟩) := hR 8 (by decide)
      have d9 : x9 = .int .i64 y := hR 9 (by decide)
      have d10 : x10 = .slice (some ⟨gi, oi, none⟩) xs.length c1 := hR 10 (by decide)
      have d11 : x11 = .int .i64 (ax : Int) := hR 11 (by decide)
      have d12 : x12 = .pointer (some ⟨gi, oi + ax, none⟩) := hR 12 (by decide)
      have d13 : x13 = .int .i64 hh := hR 13 (by decide)
      have d14 : x14 = .pointer (some ⟨gd, g, none⟩) := hR 14 (by decide)
      have d16 : x16 = .pointer (some ⟨gp, g, none⟩) := hR 16 (by decide)
      clear hR
      subst d0
      subst d1
      subst d2
      subst d3
      subst d4
      subst d5
      subst d6
      subst d7
      subst d8
      subst d9
      subst d10
      subst d11
      subst d12
      subst d13
      subst d14
      subst d16
      try simp only [putAll, Act.put, List.setIfInBounds_toArray, List.set_cons_zero, List.set_cons_succ]
      have G4 := Lib.hid (hS.2.2 rfl)
      clear hS hb1 G3
      obtain ⟨V4, rfl⟩ : ∃ x : World, x = w1 := ⟨_, rfl⟩
      (repeat gi_step)
      have G5 := G4.out.putM 1 rfl (.loop (R .ready none)) rfl
      simp only [List.set_cons_zero, List.set_cons_succ] at G5
      simp only [List.map_map] at G5
      first | exact ⟨G4.out.m 1 rfl, G5⟩ | exact ⟨G4.out.m 1 rfl, .inl ⟨trivial, G5⟩⟩
   ·skip
    have hd0 : (hh == 0) = false := by simpa using hc0
    refine wpIn_region_inv (w := V2) 18 (fun _ _ => True) (fun _ W => Fr w.heap.size w W [(w.heap.size, [.slice a xs.length c, .slice (some ⟨gy, oy, none⟩) ys.length d]), (w.heap.size + 1, [.int .i64 (ax : Int)]), (w.heap.size + 1 + 1, [.slice as_ S.length cs_, .slice (some ⟨gd, 0, none⟩) N dd]), (w.heap.size + 1 + 1 + 1, [.slice (some ⟨gp, 0, none⟩) N N]), (P, [.slice ap xs.length cp])] [(.i64, a, xs), (.i64, (some ⟨gy, oy, none⟩), ys)] [⟨3, .slice as_ S.length cs_, S.length, S.map (Value.int .i64)⟩, ⟨2, .slice (some ⟨gd, 0, none⟩) N dd, N, ((List.range N).map (TT k)).map (Value.int .i64)⟩, ⟨3, .slice (some ⟨gp, 0, none⟩) N N, N, ((List.range N).map (PP k)).map (Value.int .i64)⟩, ⟨3, .slice ap xs.length cp, xs.length, xs.map (Value.int .i64)⟩] [(D, .deferred (some [])), (D + 1, .loop (R .busy none))] ∧ Below V2.heap.size V2 W) [] [(fun u _ => u = .slice (some ⟨gi, oi, none⟩) xs.length c1), (fun u _ => u = .int .i64 (ax : Int)), (fun u _ => u = .pointer (some ⟨gi, oi + ax, none⟩)), (fun u _ => u = .int .i64 hh), (fun u _ => u = .bool false), (fun u _ => u = .bool false), (fun u _ => u = .pointer (some ⟨w.heap.size, 1, none⟩)), (fun u _ => u = .slice (some ⟨gy, oy, none⟩) ys.length d), (fun u _ => u = .int .i64 (k : Int)), (fun u _ => u = .pointer (some ⟨gy, oy + k, none⟩)), (fun u _ => u = .int .i64 y), (fun u _ => u = .pointer (some ⟨w.heap.size + 1 + 1, 1, none⟩)), (fun u _ => u = .slice (some ⟨gd, 0, none⟩) N dd), (fun u _ => u = .int .i64 (g : Int)), (fun u _ => u = .pointer (some ⟨gd, g, none⟩)), (fun u _ => u = .int .i64 tk), (fun u _ => u = .bool (decide (tk < y))), (fun u _ => u = .bool (decide (tk < y)))] [some 41, some 42, some 43, some 44, some 45, some 46, some 47, some 48, some 49, some 50, some 51, some 52, some 53, some 54, some 55, some 56, some 57, some 58] (by kernel_rfl) (by kernel_rfl) rfl (by kernel_rfl) (by kernel_rfl) (by decide) (by decide) (fun _ _ => trivial) trivial ⟨G2.out.drew, (Below.refl _ _).drew⟩ (BorneAll.at (.cons (borne_eq _) (.cons (borne_eq _) (.cons (borne_eq _) (.cons (borne_eq _) (.cons (borne_eq _) (.cons (borne_eq _) (.cons (borne_eq _) (.cons (borne_eq _) (.cons (borne_eq _) (.cons (borne_eq _) (.cons (borne_eq _) (.cons (borne_eq _) (.cons (borne_eq _) (.cons (borne_eq _) (.cons (borne_eq _) (.cons (borne_eq _) (.cons (borne_eq _) (.cons (borne_eq _) .nil))))))))))))))))))) (fun vs b hvl hvb => ?_)
    obtain ⟨x0, x1, x2, x3, x4, x5, x6, x7, x8, x9, x10, x11, x12, x13, x14, x15, x16, x17, rfl⟩ : ∃ x0 x1 x2 x3 x4 x5 x6 x7 x8 x9 x10 x11 x12 x13 x14 x15 x16 x17, vs = [x0, x1, x2, x3, x4, x5, x6, x7, x8, x9, x10, x11, x12, x13, x14, x15, x16, x17] := lst18 hvl
    clear hvl
    simp only [putAll, Act.put, List.setIfInBounds_toArray, List.set_cons_zero, List.set_cons_succ] at hvb
    subst hvb
    refine ⟨(.snoc (.snoc (.snoc (.snoc (.snoc (.snoc (.snoc (.snoc (.snoc (.snoc (.snoc (.snoc (.snoc (.snoc (.snoc (.snoc (.snoc (.snoc .zero (InvObIn.intro (d := (some 41)) (r := fun u _ => u = .slice (some ⟨gi, oi, none⟩) xs.length c1) 0 0 rfl rfl rfl (by kernel_rfl) (by kernel_rfl) rfl ?io10nx0)) (InvObIn.intro (d := (some 42)) (r := fun u _ => u = .int .i64 (ax : Int)) 0 0 rfl rfl rfl (by kernel_rfl) (by kernel_rfl) rfl ?io10nx1)) (InvObIn.intro (d := (some 43)) (r := fun u _ => u = .pointer (some ⟨gi, oi + ax, none⟩)) 0 0 rfl rfl rfl (by kernel_rfl) (by kernel_rfl) rfl ?io10nx2)) (InvObIn.intro (d := (some 44)) (r := fun u _ => u = .int .i64 hh) 0 0 rfl rfl rfl (by kernel_rfl) (by kernel_rfl) rfl ?io10nx3)) (InvObIn.intro (d := (some 45)) (r := fun u _ => u = .bool false) 0 0 rfl rfl rfl (by kernel_rfl) (by kernel_rfl) rfl ?io10nx4)) (InvObIn.intro (d := (some 46)) (r := fun u _ => u = .bool false) 0 0 rfl rfl rfl (by kernel_rfl) (by kernel_rfl) rfl ?io10nx5)) (InvObIn.intro (d := (some 47)) (r := fun u _ => u = .pointer (some ⟨w.heap.size, 1, none⟩)) 0 0 rfl rfl rfl (by kernel_rfl) (by kernel_rfl) rfl ?io10nx6)) (InvObIn.intro (d := (some 48)) (r := fun u _ => u = .slice (some ⟨gy, oy, none⟩) ys.length d) 0 0 rfl rfl rfl (by kernel_rfl) (by kernel_rfl) rfl ?io10nx7)) (InvObIn.intro (d := (some 49)) (r := fun u _ => u = .int .i64 (k : Int)) 0 0 rfl rfl rfl (by kernel_rfl) (by kernel_rfl) rfl ?io10nx8)) (InvObIn.intro (d := (some 50)) (r := fun u _ => u = .pointer (some ⟨gy, oy + k, none⟩)) 0 0 rfl rfl rfl (by kernel_rfl) (by kernel_rfl) rfl ?io10nx9)) (InvObIn.intro (d := (some 51)) (r := fun u _ => u = .int .i64 y) 0 0 rfl rfl rfl (by kernel_rfl) (by kernel_rfl) rfl ?io10nx10)) (InvObIn.intro (d := (some 52)) (r := fun u _ => u = .pointer (some ⟨w.heap.size + 1 + 1, 1, none⟩)) 0 0 rfl rfl rfl (by kernel_rfl) (by kernel_rfl) rfl ?io10nx11)) (InvObIn.intro (d := (some 53)) (r := fun u _ => u = .slice (some ⟨gd, 0, none⟩) N dd) 0 0 rfl rfl rfl (by kernel_rfl) (by kernel_rfl) rfl ?io10nx12)) (InvObIn.intro (d := (some 54)) (r := fun u _ => u = .int .i64 (g : Int)) 0 0 rfl rfl rfl (by kernel_rfl) (by kernel_rfl) rfl ?io10nx13)) (InvObIn.intro (d := (some 55)) (r := fun u _ => u = .pointer (some ⟨gd, g, none⟩)) 0 0 rfl rfl rfl (by kernel_rfl) (by kernel_rfl) rfl ?io10nx14)) (InvObIn.intro (d := (some 56)) (r := fun u _ => u = .int .i64 tk) 0 0 rfl rfl rfl (by kernel_rfl) (by kernel_rfl) rfl ?io10nx15)) (InvObIn.intro (d := (some 57)) (r := fun u _ => u = .bool (decide (tk < y))) 0 0 rfl rfl rfl (by kernel_rfl) (by kernel_rfl) rfl ?io10nx16)) (InvObIn.intro (d := (some 58)) (r := fun u _ => u = .bool (decide (tk < y))) 0 0 rfl rfl rfl (by kernel_rfl) (by kernel_rfl) rfl ?io10nx17)), ?iend10n⟩
    case io10nx0 =>
     intro k1 w1 hk0 hk1 hb1 hS hd KK hK
     clear hd
     simp only [Act.put, List.setIfInBounds_toArray, List.set_cons_zero, List.set_cons_succ] at hK
     go_simp
     first | exact hK.out _ _ trivial hS rfl | (have hk := hK.out _ _ trivial hS rfl; revert hk; go_simp)
    case io10nx1 =>
     intro k1 w1 hk0 hk1 hb1 hS hd KK hK
     clear hd
     have k0 := hS.1.c 1 0 rfl rfl
     simp only [Act.put, List.setIfInBounds_toArray, List.set_cons_zero, List.set_cons_succ] at hK
     go_simp
     first | exact hK.out _ _ trivial hS rfl | (have hk := hK.out _ _ trivial hS rfl; revert hk; go_simp)
    case io10nx2 =>
     intro k1 w1 hk0 hk1 hb1 hS hd KK hK
     have d0 : x0 = .slice (some ⟨gi, oi, none⟩) xs.length c1 := hd 0 (by kernel_rfl)
     have d1 : x1 = .int .i64 (ax : Int) := hd 1 (by kernel_rfl)
     clear hd
     subst d0
     subst d1
     simp only [Act.put, List.setIfInBounds_toArray, List.set_cons_zero, List.set_cons_succ] at hK
     go_simp
     first | exact hK.out _ _ trivial hS rfl | (have hk := hK.out _ _ trivial hS rfl; revert hk; go_simp)
    case io10nx3 =>
     intro k1 w1 hk0 hk1 hb1 hS hd KK hK
     have d2 : x2 = .pointer (some ⟨gi, oi + ax, none⟩) := hd 2 (by kernel_rfl)
     clear hd
     subst d2
     have hcx := (hS.2.cell (p := ⟨gi, oi + ax, none⟩) hli2).trans HCI2.out
     simp only [Act.put, List.setIfInBounds_toArray, List.set_cons_zero, List.set_cons_succ] at hK
     go_simp
     first | exact hK.out _ _ trivial hS rfl | (have hk := hK.out _ _ trivial hS rfl; revert hk; go_simp)
    case io10nx4 =>
     intro k1 w1 hk0 hk1 hb1 hS hd KK hK
     have d3 : x3 = .int .i64 hh := hd 3 (by kernel_rfl)
     clear hd
     subst d3
     simp only [Act.put, List.setIfInBounds_toArray, List.set_cons_zero, List.set_cons_succ] at hK
     go_simp
     first | exact hK.out _ _ trivial hS rfl | (have hk := hK.out _ _ trivial hS rfl; revert hk; go_simp)
    case io10nx5 =>
     intro k1 w1 hk0 hk1 hb1 hS hd KK hK
     have d4 : x4 = .bool false := hd 4 (by kernel_rfl)
     clear hd
     subst d4
     simp only [Act.put, List.setIfInBounds_toArray, List.set_cons_zero, List.set_cons_succ] at hK
     go_simp
     first | exact hK.out _ _ trivial hS rfl | (have hk := hK.out _ _ trivial hS rfl; revert hk; go_simp)
    case io10nx6 =>
     intro k1 w1 hk0 hk1 hb1 hS hd KK hK
     have d5 : x5 = .bool false := hd 5 (by kernel_rfl)
     clear hd
     subst d5
     simp only [Act.put, List.setIfInBounds_toArray, List.set_cons_zero, List.set_cons_succ] at hK
     go_simp
     first | exact hK.out _ _ trivial hS rfl | (have hk := hK.out _ _ trivial hS rfl; revert hk; go_simp)
    case io10nx7 =>
     intro k1 w1 hk0 hk1 hb1 hS hd KK hK
     have d5 : x5 = .bool false := hd 5 (by kernel_rfl)
     have d6 : x6 = .pointer (some ⟨w.heap.size, 1, none⟩) := hd 6 (by kernel_rfl)
     clear hd
     subst d5
     subst d6
     have k1 := hS.1.c 0 1 rfl rfl
     simp only [Act.put, List.setIfInBounds_toArray, List.set_cons_zero, List.set_cons_succ] at hK
     go_simp
     first | exact hK.out _ _ trivial hS rfl | (have hk := hK.out _ _ trivial hS rfl; revert hk; go_simp)
    case io10nx8 =>
     intro k1 w1 hk0 hk1 hb1 hS hd KK hK
     have d5 : x5 = .bool false := hd 5 (by kernel_rfl)
     clear hd
     subst d5
     simp only [Act.put, List.setIfInBounds_toArray, List.set_cons_zero, List.set_cons_succ] at hK
     go_simp
     first | exact hK.out _ _ trivial hS rfl | (have hk := hK.out _ _ trivial hS rfl; revert hk; go_simp)
    case io10nx9 =>
     intro k1 w1 hk0 hk1 hb1 hS hd KK hK
     have d5 : x5 = .bool false := hd 5 (by kernel_rfl)
     have d7 : x7 = .slice (some ⟨gy, oy, none⟩) ys.length d := hd 7 (by kernel_rfl)
     have d8 : x8 = .int .i64 (k : Int) := hd 8 (by kernel_rfl)
     clear hd
     subst d5
     subst d7
     subst d8
     simp only [Act.put, List.setIfInBounds_toArray, List.set_cons_zero, List.set_cons_succ] at hK
     go_simp
     first | exact hK.out _ _ trivial hS rfl | (have hk := hK.out _ _ trivial hS rfl; revert hk; go_simp)
    case io10nx10 =>
     intro k1 w1 hk0 hk1 hb1 hS hd KK hK
     have d5 : x5 = .bool false := hd 5 (by kernel_rfl)
     have d9 : x9 = .pointer (some ⟨gy, oy + k, none⟩) := hd 9 (by kernel_rfl)
     clear hd
     subst d5
     subst d9
     obtain ⟨b9, o9, he, hl9, hcx⟩ := (hS.1.l 1 rfl).cell k hkl
     cases he
     rw [HY.out] at hcx
     simp only [Act.put, List.setIfInBounds_toArray, List.set_cons_zero, List.set_cons_succ] at hK
     go_simp
     first | exact hK.out _ _ trivial hS rfl | (have hk := hK.out _ _ trivial hS rfl; revert hk; go_simp)
    case io10nx11 =>
     intro k1 w1 hk0 hk1 hb1 hS hd KK hK
     have d5 : x5 = .bool false := hd 5 (by kernel_rfl)
     clear hd
     subst d5
     simp only [Act.put, List.setIfInBounds_toArray, List.set_cons_zero, List.set_cons_succ] at hK
     go_simp
     first | exact hK.out _ _ trivial hS rfl | (have hk := hK.out _ _ trivial hS rfl; revert hk; go_simp)
    case io10nx12 =>
     intro k1 w1 hk0 hk1 hb1 hS hd KK hK
     have d5 : x5 = .bool false := hd 5 (by kernel_rfl)
     have d11 : x11 = .pointer (some ⟨w.heap.size + 1 + 1, 1, none⟩) := hd 11 (by kernel_rfl)
     clear hd
     subst d5
     subst d11
     have k1 := hS.1.c 2 1 rfl rfl
     simp only [Act.put, List.setIfInBounds_toArray, List.set_cons_zero, List.set_cons_succ] at hK
     go_simp
     first | exact hK.out _ _ trivial hS rfl | (have hk := hK.out _ _ trivial hS rfl; revert hk; go_simp)
    case io10nx13 =>
     intro k1 w1 hk0 hk1 hb1 hS hd KK hK
     have d5 : x5 = .bool false := hd 5 (by kernel_rfl)
     clear hd
     subst d5
     simp only [Act.put, List.setIfInBounds_toArray, List.set_cons_zero, List.set_cons_succ] at hK
     go_simp
     first | exact hK.out _ _ trivial hS rfl | (have hk := hK.out _ _ trivial hS rfl; revert hk; go_simp)
    case io10nx14 =>
     intro k1 w1 hk0 hk1 hb1 hS hd KK hK
     have d5 : x5 = .bool false := hd 5 (by kernel_rfl)
     have d12 : x12 = .slice (some ⟨gd, 0, none⟩) N dd := hd 12 (by kernel_rfl)
     have d13 : x13 = .int .i64 (g : Int) := hd 13 (by kernel_rfl)
     clear hd
     subst d5
     subst d12
     subst d13
     simp only [Act.put, List.setIfInBounds_toArray, List.set_cons_zero, List.set_cons_succ] at hK
     go_simp
     first | exact hK.out _ _ trivial hS rfl | (have hk := hK.out _ _ trivial hS rfl; revert hk; go_simp)
    case io10nx15 =>
     intro k1 w1 hk0 hk1 hb1 hS hd KK hK
     have d5 : x5 = .bool false := hd 5 (by kernel_rfl)
     have d14 : x14 = .pointer (some ⟨gd, g, none⟩) := hd 14 (by kernel_rfl)
     clear hd
     subst d5
     subst d14
     have hcx := (hS.1.rc 1 g rfl (rangeV (TT k) hgn)).1
     rw [HTK.out] at hcx
     simp only [Act.put, List.setIfInBounds_toArray, List.set_cons_zero, List.set_cons_succ] at hK
     go_simp
     first | exact hK.out _ _ trivial hS rfl | (have hk := hK.out _ _ trivial hS rfl; revert hk; go_simp)
    case io10nx16 =>
     intro k1 w1 hk0 hk1 hb1 hS hd KK hK
     have d5 : x5 = .bool false := hd 5 (by kernel_rfl)
     have d10 : x10 = .int .i64 y := hd 10 (by kernel_rfl)
     have d15 : x15 = .int .i64 tk := hd 15 (by kernel_rfl)
     clear hd
     subst d5
     subst d10
     subst d15
     simp only [Act.put, List.setIfInBounds_toArray, List.set_cons_zero, List.set_cons_succ] at hK
     go_simp
     first | exact hK.out _ _ trivial hS rfl | (have hk := hK.out _ _ trivial hS rfl; revert hk; go_simp)
    case io10nx17 =>
     intro k1 w1 hk0 hk1 hb1 hS hd KK hK
     have d5 : x5 = .bool false := hd 5 (by kernel_rfl)
     have d16 : x16 = .bool (decide (tk < y)) := hd 16 (by kernel_rfl)
     clear hd
     subst d5
     subst d16
     simp only [Act.put, List.setIfInBounds_toArray, List.set_cons_zero, List.set_cons_succ] at hK
     go_simp
     first | exact hK.out _ _ trivial hS rfl | (have hk := hK.out _ _ trivial hS rfl; revert hk; go_simp)
    case iend10n =>
     intro w1 hb1 hS hR
     have d0 : x0 = .slice (some ⟨gi, oi, none⟩) xs.length c1 := hR 0 (by decide)
     have d1 : x1 = .int .i64 (ax : Int) := hR 1 (by decide)
     have d2 : x2 = .pointer (some ⟨gi, oi + ax, none⟩) := hR 2 (by decide)
     have d3 : x3 = .int .i64 hh := hR 3 (by decide)
     have d4 : x4 = .bool false := hR 4 (by decide)
     have d5 : x5 = .bool false := hR 5 (by decide)
     have d6 : x6 = .pointer (some ⟨w.heap.size, 1, none⟩) := hR 6 (by decide)
     have d7 : x7 = .slice (some ⟨gy, oy, none⟩) ys.length d := hR 7 (by decide)
     have d8 : x8 = .int .i64 (k : Int) := hR 8 (by decide)
     have d9 : x9 = .pointer (some ⟨gy, oy + k, none⟩) := hR 9 (by decide)
     have d10 : x10 = .int .i64 y := hR 10 (by decide)
     have d11 : x11 = .pointer (some ⟨w.heap.size + 1 + 1, 1, none⟩) := hR 11 (by decide)
     have d12 : x12 = .slice (some ⟨gd, 0, none⟩) N dd := hR 12 (by decide)
     have d13 : x13 = .int .i64 (g : Int) := hR 13 (by decide)
     have d14 : x14 = .pointer (some ⟨gd, g, none⟩) := hR 14 (by decide)
     have d15 : x15 = .int .i64 tk := hR 15 (by decide)
     have d16 : x16 = .bool (decide (tk < y)) := hR 16 (by decide)
     have d17 : x17 = .bool (decide (tk < y)) := hR 17 (by decide)
     clear hR
     subst d0
     subst d1
     subst d2
     subst d3
     subst d4
     subst d5
     subst d6
     subst d7
     subst d8
     subst d9
     subst d10
     subst d11
     subst d12
     subst d13
     subst d14
     subst d15
     subst d16
     subst d17
     try simp only [putAll, Act.put, List.setIfInBounds_toArray, List.set_cons_zero, List.set_cons_succ]
     have G3 := Lib.hid hS.1
     have HCI3 := Lib.hid ((hS.2.cell (p := ⟨gi, oi + ax, none⟩) hli2).trans HCI2.out)
     have hli3 : gi < w1.heap.size := Nat.lt_of_lt_of_le hli2 hS.2.size
     clear hS hb1 G2 HCI2 hli2
     obtain ⟨V3, rfl⟩ : ∃ x : World, x = w1 := ⟨_, rfl⟩
     by_cases hty : tk < y
     ·skip
      have htd : decide (tk < y) = true := by simpa using hty
      rw [htd]
      (repeat gi_step)
      have hcnd : hh = 0 ∨ tk < y := .inr hty
      have hsg := (HST2.out g).2.1 rfl (by rw [HTK.out]; exact hcnd)
      have HF1 := Lib.hid (fillC y hgn hsg.1 (fun i hi => ((HST2.out i).1 (fun h => hi h.symm)).1))
      have HF2 := Lib.hid (fillC hh hgn hsg.2 (fun i hi => ((HST2.out i).1 (fun h => hi h.symm)).2))
      clear hsg hcnd
      refine wpIn_region_inv (w := V3) 18 (fun _ _ => True) (fun k9 W => (k9 = 0 → Fr w.heap.size w W [(w.heap.size, [.slice a xs.length c, .slice (some ⟨gy, oy, none⟩) ys.length d]), (w.heap.size + 1, [.int .i64 (ax : Int)]), (w.heap.size + 1 + 1, [.slice as_ S.length cs_, .slice (some ⟨gd, 0, none⟩) N dd]), (w.heap.size + 1 + 1 + 1, [.slice (some ⟨gp, 0, none⟩) N N]), (P, [.slice ap xs.length cp])] [(.i64, a, xs), (.i64, (some ⟨gy, oy, none⟩), ys)] [⟨3, .slice as_ S.length cs_, S.length, S.map (Value.int .i64)⟩, ⟨2, .slice (some ⟨gd, 0, none⟩) N dd, N, ((List.range N).map (TT k)).map (Value.int .i64)⟩, ⟨3, .slice (some ⟨gp, 0, none⟩) N N, N, ((List.range N).map (PP k)).map (Value.int .i64)⟩, ⟨3, .slice ap xs.length cp, xs.length, xs.map (Value.int .i64)⟩] [(D, .deferred (some [])), (D + 1, .loop (R .busy none))] ∧ Below V3.heap.size V3 W) ∧ (k9 = 1 → Fr w.heap.size w W [(w.heap.size, [.slice a xs.length c, .slice (some ⟨gy, oy, none⟩) ys.length d]), (w.heap.size + 1, [.int .i64 (ax : Int)]), (w.heap.size + 1 + 1, [.slice as_ S.length cs_, .slice (some ⟨gd, 0, none⟩) N dd]), (w.heap.size + 1 + 1 + 1, [.slice (some ⟨gp, 0, none⟩) N N]), (P, [.slice ap xs.length cp])] [(.i64, a, xs), (.i64, (some ⟨gy, oy, none⟩), ys)] [⟨3, .slice as_ S.length cs_, S.length, S.map (Value.int .i64)⟩, ⟨2, .slice (some ⟨gd, 0, none⟩) N dd, N, ((List.range N).map (TT (k + 1))).map (Value.int .i64)⟩, ⟨3, .slice (some ⟨gp, 0, none⟩) N N, N, ((List.range N).map (PP k)).map (Value.int .i64)⟩, ⟨3, .slice ap xs.length cp, xs.length, xs.map (Value.int .i64)⟩] [(D, .deferred (some [])), (D + 1, .loop (R .busy none))]) ∧ (k9 = 2 → Fr w.heap.size w W [(w.heap.size, [.slice a xs.length c, .slice (some ⟨gy, oy, none⟩) ys.length d]), (w.heap.size + 1, [.int .i64 (ax : Int)]), (w.heap.size + 1 + 1, [.slice as_ S.length cs_, .slice (some ⟨gd, 0, none⟩) N dd]), (w.heap.size + 1 + 1 + 1, [.slice (some ⟨gp, 0, none⟩) N N]), (P, [.slice ap xs.length cp])] [(.i64, a, xs), (.i64, (some ⟨gy, oy, none⟩), ys)] [⟨3, .slice as_ S.length cs_, S.length, S.map (Value.int .i64)⟩, ⟨2, .slice (some ⟨gd, 0, none⟩) N dd, N, ((List.range N).map (TT (k + 1))).map (Value.int .i64)⟩, ⟨3, .slice (some ⟨gp, 0, none⟩) N N, N, ((List.range N).map (PP (k + 1))).map (Value.int .i64)⟩, ⟨3, .slice ap xs.length cp, xs.length, xs.map (Value.int .i64)⟩] [(D, .deferred (some [])), (D + 1, .loop (R .busy none))])) [15, 17] [(fun u _ => u = .pointer (some ⟨w.heap.size + 1 + 1, 1, none⟩)), (fun u _ => u = .slice (some ⟨gd, 0, none⟩) N dd), (fun u _ => u = .int .i64 (g : Int)), (fun u _ => u = .slice (some ⟨gp, 0, none⟩) N N), (fun u _ => u = .int .i64 (g : Int)), (fun u _ => u = .pointer (some ⟨w.heap.size, 1, none⟩)), (fun u _ => u = .slice (some ⟨gy, oy, none⟩) ys.length d), (fun u _ => u = .int .i64 (k : Int)), (fun u _ => u = .pointer (some ⟨gy, oy + k, none⟩)), (fun u _ => u = .int .i64 y), (fun u _ => u = .slice (some ⟨gi, oi, none⟩) xs.length c1), (fun u _ => u = .int .i64 (ax : Int)), (fun u _ => u = .pointer (some ⟨gi, oi + ax, none⟩)), (fun u _ => u = .int .i64 hh), (fun u _ => u = .pointer (some ⟨gd, g, none⟩)), (fun _ _ => True), (fun u _ => u = .pointer (some ⟨gp, g, none⟩)), (fun _ _ => True)] [some 59, some 60, some 61, some 62, some 63, some 64, some 65, some 66, some 67, some 68, some 69, some 70, some 71, some 72, some 73, none, some 74, none] (by kernel_rfl) (by kernel_rfl) rfl (by kernel_rfl) (by kernel_rfl) (by decide) (by decide) (fun _ _ => trivial) trivial ⟨fun _ => ⟨G3.out.drew, (Below.refl _ _).drew⟩, fun h => absurd h (by decide), fun h => absurd h (by decide)⟩ (BorneAll.at (.cons (borne_eq _) (.cons (borne_eq _) (.cons (borne_eq _) (.cons (borne_eq _) (.cons (borne_eq _) (.cons (borne_eq _) (.cons (borne_eq _) (.cons (borne_eq _) (.cons (borne_eq _) (.cons (borne_eq _) (.cons (borne_eq _) (.cons (borne_eq _) (.cons (borne_eq _) (.cons (borne_eq _) (.cons (borne_eq _) (.cons (fun _ _ _ _ _ => trivial) (.cons (borne_eq _) (.cons (fun _ _ _ _ _ => trivial) .nil))))))))))))))))))) (fun vs b hvl hvb => ?_)
      obtain ⟨x0, x1, x2, x3, x4, x5, x6, x7, x8, x9, x10, x11, x12, x13, x14, x15, x16, x17, rfl⟩ : ∃ x0 x1 x2 x3 x4 x5 x6 x7 x8 x9 x10 x11 x12 x13 x14 x15 x16 x17, vs = [x0, x1, x2, x3, x4, x5, x6, x7, x8, x9, x10, x11, x12, x13, x14, x15, x16, x17] := lst18 hvl
      clear hvl
      simp only [putAll, Act.put, List.setIfInBounds_toArray, List.set_cons_zero, List.set_cons_succ] at hvb
      subst hvb
      refine ⟨(.snoc (.snoc (.snoc (.snoc (.snoc (.snoc (.snoc (.snoc (.snoc (.snoc (.snoc (.snoc (.snoc (.snoc (.snoc (.snoc (.snoc (.snoc .zero (InvObIn.intro (d := (some 59)) (r := fun u _ => u = .pointer (some ⟨w.heap.size + 1 + 1, 1, none⟩)) 0 0 rfl rfl rfl (by kernel_rfl) (by kernel_rfl) rfl ?io11nx0)) (InvObIn.intro (d := (some 60)) (r := fun u _ => u = .slice (some ⟨gd, 0, none⟩) N dd) 0 0 rfl rfl rfl (by kernel_rfl) (by kernel_rfl) rfl ?io11nx1)) (InvObIn.intro (d := (some 61)) (r := fun u _ => u = .int .i64 (g : Int)) 0 0 rfl rfl rfl (by kernel_rfl) (by kernel_rfl) rfl ?io11nx2)) (InvObIn.intro (d := (some 62)) (r := fun u _ => u = .slice (some ⟨gp, 0, none⟩) N N) 0 1 rfl rfl rfl (by kernel_rfl) (by kernel_rfl) rfl ?io11nx3)) (InvObIn.intro (d := (some 63)) (r := fun u _ => u = .int .i64 (g : Int)) 0 1 rfl rfl rfl (by kernel_rfl) (by kernel_rfl) rfl ?io11nx4)) (InvObIn.intro (d := (some 64)) (r := fun u _ => u = .pointer (some ⟨w.heap.size, 1, none⟩)) 0 0 rfl rfl rfl (by kernel_rfl) (by kernel_rfl) rfl ?io11nx5)) (InvObIn.intro (d := (some 65)) (r := fun u _ => u = .slice (some ⟨gy, oy, none⟩) ys.length d) 0 0 rfl rfl rfl (by kernel_rfl) (by kernel_rfl) rfl ?io11nx6)) (InvObIn.intro (d := (some 66)) (r := fun u _ => u = .int .i64 (k : Int)) 0 0 rfl rfl rfl (by kernel_rfl) (by kernel_rfl) rfl ?io11nx7)) (InvObIn.intro (d := (some 67)) (r := fun u _ => u = .pointer (some ⟨gy, oy + k, none⟩)) 0 0 rfl rfl rfl (by kernel_rfl) (by kernel_rfl) rfl ?io11nx8)) (InvObIn.intro (d := (some 68)) (r := fun u _ => u = .int .i64 y) 0 0 rfl rfl rfl (by kernel_rfl) (by kernel_rfl) rfl ?io11nx9)) (InvObIn.intro (d := (some 69)) (r := fun u _ => u = .slice (some ⟨gi, oi, none⟩) xs.length c1) 0 0 rfl rfl rfl (by kernel_rfl) (by kernel_rfl) rfl ?io11nx10)) (InvObIn.intro (d := (some 70)) (r := fun u _ => u = .int .i64 (ax : Int)) 0 0 rfl rfl rfl (by kernel_rfl) (by kernel_rfl) rfl ?io11nx11)) (InvObIn.intro (d := (some 71)) (r := fun u _ => u = .pointer (some ⟨gi, oi + ax, none⟩)) 0 0 rfl rfl rfl (by kernel_rfl) (by kernel_rfl) rfl ?io11nx12)) (InvObIn.intro (d := (some 72)) (r := fun u _ => u = .int .i64 hh) 0 0 rfl rfl rfl (by kernel_rfl) (by kernel_rfl) rfl ?io11nx13)) (InvObIn.intro (d := (some 73)) (r := fun u _ => u = .pointer (some ⟨gd, g, none⟩)) 0 0 rfl rfl rfl (by kernel_rfl) (by kernel_rfl) rfl ?io11nx14)) (InvObIn.put (d := none) (r := fun _ _ => True) 0 rfl rfl rfl (by kernel_rfl) (by kernel_rfl) rfl ?io11nx15)) (InvObIn.intro (d := (some 74)) (r := fun u _ => u = .pointer (some ⟨gp, g, none⟩)) 1 1 rfl rfl rfl (by kernel_rfl) (by kernel_rfl) rfl ?io11nx16)) (InvObIn.put (d := none) (r := fun _ _ => True) 1 rfl rfl rfl (by kernel_rfl) (by kernel_rfl) rfl ?io11nx17)), ?iend11n⟩
      case io11nx0 =>
       intro k1 w1 hk0 hk1 hb1 hS hd KK hK
       clear hd
       simp only [Act.put, List.setIfInBounds_toArray, List.set_cons_zero, List.set_cons_succ] at hK
       go_simp
       first | exact hK.out _ _ trivial hS rfl | (have hk := hK.out _ _ trivial hS rfl; revert hk; go_simp)
      case io11nx1 =>
       intro k1 w1 hk0 hk1 hb1 hS hd KK hK
       have d0 : x0 = .pointer (some ⟨w.heap.size + 1 + 1, 1, none⟩) := hd 0 (by kernel_rfl)
       clear hd
       subst d0
       have hF := (hS.1 (by omega)).1
       have k1 := hF.c 2 1 rfl rfl
       simp only [Act.put, List.setIfInBounds_toArray, List.set_cons_zero, List.set_cons_succ] at hK
       go_simp
       first | exact hK.out _ _ trivial hS rfl | (have hk := hK.out _ _ trivial hS rfl; revert hk; go_simp)
      case io11nx2 =>
       intro k1 w1 hk0 hk1 hb1 hS hd KK hK
       clear hd
       simp only [Act.put, List.setIfInBounds_toArray, List.set_cons_zero, List.set_cons_succ] at hK
       go_simp
       first | exact hK.out _ _ trivial hS rfl | (have hk := hK.out _ _ trivial hS rfl; revert hk; go_simp)
      case io11nx3 =>
       intro k1 w1 hk0 hk1 hb1 hS hd KK hK
       clear hd
       have k0 : w1.cell? ⟨w.heap.size + 1 + 1 + 1, 0, none⟩ = some (.slice (some ⟨gp, 0, none⟩) N N) := by rcases Nat.eq_zero_or_pos k1 with h | h; exact (hS.1 h).1.c 3 0 rfl rfl; exact (hS.2.1 (by omega)).c 3 0 rfl rfl
       simp only [Act.put, List.setIfInBounds_toArray, List.set_cons_zero, List.set_cons_succ] at hK
       go_simp
       first | exact hK.out _ _ trivial hS rfl | (have hk := hK.out _ _ trivial hS rfl; revert hk; go_simp)
      case io11nx4 =>
       intro k1 w1 hk0 hk1 hb1 hS hd KK hK
       clear hd
       simp only [Act.put, List.setIfInBounds_toArray, List.set_cons_zero, List.set_cons_succ] at hK
       go_simp
       first | exact hK.out _ _ trivial hS rfl | (have hk := hK.out _ _ trivial hS rfl; revert hk; go_simp)
      case io11nx5 =>
       intro k1 w1 hk0 hk1 hb1 hS hd KK hK
       clear hd
       simp only [Act.put, List.setIfInBounds_toArray, List.set_cons_zero, List.set_cons_succ] at hK
       go_simp
       first | exact hK.out _ _ trivial hS rfl | (have hk := hK.out _ _ trivial hS rfl; revert hk; go_simp)
      case io11nx6 =>
       intro k1 w1 hk0 hk1 hb1 hS hd KK hK
       have d5 : x5 = .pointer (some ⟨w.heap.size, 1, none⟩) := hd 5 (by kernel_rfl)
       clear hd
       subst d5
       have hF := (hS.1 (by omega)).1
       have k1 := hF.c 0 1 rfl rfl
       simp only [Act.put, List.setIfInBounds_toArray, List.set_cons_zero, List.set_cons_succ] at hK
       go_simp
       first | exact hK.out _ _ trivial hS rfl | (have hk := hK.out _ _ trivial hS rfl; revert hk; go_simp)
      case io11nx7 =>
       intro k1 w1 hk0 hk1 hb1 hS hd KK hK
       clear hd
       simp only [Act.put, List.setIfInBounds_toArray, List.set_cons_zero, List.set_cons_succ] at hK
       go_simp
       first | exact hK.out _ _ trivial hS rfl | (have hk := hK.out _ _ trivial hS rfl; revert hk; go_simp)
      case io11nx8 =>
       intro k1 w1 hk0 hk1 hb1 hS hd KK hK
       have d6 : x6 = .slice (some ⟨gy, oy, none⟩) ys.length d := hd 6 (by kernel_rfl)
       have d7 : x7 = .int .i64 (k : Int) := hd 7 (by kernel_rfl)
       clear hd
       subst d6
       subst d7
       simp only [Act.put, List.setIfInBounds_toArray, List.set_cons_zero, List.set_cons_succ] at hK
       go_simp
       first | exact hK.out _ _ trivial hS rfl | (have hk := hK.out _ _ trivial hS rfl; revert hk; go_simp)
      case io11nx9 =>
       intro k1 w1 hk0 hk1 hb1 hS hd KK hK
       have d8 : x8 = .pointer (some ⟨gy, oy + k, none⟩) := hd 8 (by kernel_rfl)
       clear hd
       subst d8
       have hF := (hS.1 (by omega)).1
       obtain ⟨b9, o9, he, hl9, hcx⟩ := (hF.l 1 rfl).cell k hkl
       cases he
       rw [HY.out] at hcx
       simp only [Act.put, List.setIfInBounds_toArray, List.set_cons_zero, List.set_cons_succ] at hK
       go_simp
       first | exact hK.out _ _ trivial hS rfl | (have hk := hK.out _ _ trivial hS rfl; revert hk; go_simp)
      case io11nx10 =>
       intro k1 w1 hk0 hk1 hb1 hS hd KK hK
       clear hd
       simp only [Act.put, List.setIfInBounds_toArray, List.set_cons_zero, List.set_cons_succ] at hK
       go_simp
       first | exact hK.out _ _ trivial hS rfl | (have hk := hK.out _ _ trivial hS rfl; revert hk; go_simp)
      case io11nx11 =>
       intro k1 w1 hk0 hk1 hb1 hS hd KK hK
       clear hd
       have hF := (hS.1 (by omega)).1
       have k0 := hF.c 1 0 rfl rfl
       simp only [Act.put, List.setIfInBounds_toArray, List.set_cons_zero, List.set_cons_succ] at hK
       go_simp
       first | exact hK.out _ _ trivial hS rfl | (have hk := hK.out _ _ trivial hS rfl; revert hk; go_simp)
      case io11nx12 =>
       intro k1 w1 hk0 hk1 hb1 hS hd KK hK
       have d10 : x10 = .slice (some ⟨gi, oi, none⟩) xs.length c1 := hd 10 (by kernel_rfl)
       have d11 : x11 = .int .i64 (ax : Int) := hd 11 (by kernel_rfl)
       clear hd
       subst d10
       subst d11
       simp only [Act.put, List.setIfInBounds_toArray, List.set_cons_zero, List.set_cons_succ] at hK
       go_simp
       first | exact hK.out _ _ trivial hS rfl | (have hk := hK.out _ _ trivial hS rfl; revert hk; go_simp)
      case io11nx13 =>
       intro k1 w1 hk0 hk1 hb1 hS hd KK hK
       have d12 : x12 = .pointer (some ⟨gi, oi + ax, none⟩) := hd 12 (by kernel_rfl)
       clear hd
       subst d12
       have hcx := ((hS.1 (by omega)).2.cell (p := ⟨gi, oi + ax, none⟩) hli3).trans HCI3.out
       simp only [Act.put, List.setIfInBounds_toArray, List.set_cons_zero, List.set_cons_succ] at hK
       go_simp
       first | exact hK.out _ _ trivial hS rfl | (have hk := hK.out _ _ trivial hS rfl; revert hk; go_simp)
      case io11nx14 =>
       intro k1 w1 hk0 hk1 hb1 hS hd KK hK
       have d0 : x0 = .pointer (some ⟨w.heap.size + 1 + 1, 1, none⟩) := hd 0 (by kernel_rfl)
       have d1 : x1 = .slice (some ⟨gd, 0, none⟩) N dd := hd 1 (by kernel_rfl)
       have d2 : x2 = .int .i64 (g : Int) := hd 2 (by kernel_rfl)
       have d5 : x5 = .pointer (some ⟨w.heap.size, 1, none⟩) := hd 5 (by kernel_rfl)
       have d6 : x6 = .slice (some ⟨gy, oy, none⟩) ys.length d := hd 6 (by kernel_rfl)
       have d7 : x7 = .int .i64 (k : Int) := hd 7 (by kernel_rfl)
       have d8 : x8 = .pointer (some ⟨gy, oy + k, none⟩) := hd 8 (by kernel_rfl)
       have d9 : x9 = .int .i64 y := hd 9 (by kernel_rfl)
       have d13 : x13 = .int .i64 hh := hd 13 (by kernel_rfl)
       clear hd
       subst d0
       subst d1
       subst d2
       subst d5
       subst d6
       subst d7
       subst d8
       subst d9
       subst d13
       simp only [Act.put, List.setIfInBounds_toArray, List.set_cons_zero, List.set_cons_succ] at hK
       go_simp
       first | exact hK.out _ _ trivial hS rfl | (have hk := hK.out _ _ trivial hS rfl; revert hk; go_simp)
      case io11nx15 =>
       intro w1 hb1 hS hd KK hK
       have d0 : x0 = .pointer (some ⟨w.heap.size + 1 + 1, 1, none⟩) := hd 0 (by kernel_rfl)
       have d1 : x1 = .slice (some ⟨gd, 0, none⟩) N dd := hd 1 (by kernel_rfl)
       have d2 : x2 = .int .i64 (g : Int) := hd 2 (by kernel_rfl)
       have d5 : x5 = .pointer (some ⟨w.heap.size, 1, none⟩) := hd 5 (by kernel_rfl)
       have d6 : x6 = .slice (some ⟨gy, oy, none⟩) ys.length d := hd 6 (by kernel_rfl)
       have d7 : x7 = .int .i64 (k : Int) := hd 7 (by kernel_rfl)
       have d8 : x8 = .pointer (some ⟨gy, oy + k, none⟩) := hd 8 (by kernel_rfl)
       have d9 : x9 = .int .i64 y := hd 9 (by kernel_rfl)
       have d13 : x13 = .int .i64 hh := hd 13 (by kernel_rfl)
       have d14 : x14 = .pointer (some ⟨gd, g, none⟩) := hd 14 (by kernel_rfl)
       clear hd
       subst d0
       subst d1
       subst d2
       subst d5
       subst d6
       subst d7
       subst d8
       subst d9
       subst d13
       subst d14
       have hF := (hS.1 rfl).1
       obtain ⟨kc, kf⟩ := hF.rc 1 g rfl (rangeV (TT k) hgn)
       simp only [Act.put, List.setIfInBounds_toArray, List.set_cons_zero, List.set_cons_succ] at hK
       go_simp
       first | exact hK.out undef _ trivial ⟨fun h => absurd h (by decide), fun _ => by have hp := hF.put 1 g rfl (.int .i64 y); simp only [List.set_cons_zero, List.set_cons_succ] at hp; rw [HF1.out] at hp; exact hp, fun h => absurd h (by decide)⟩ trivial | (have hk := hK.out undef _ trivial ⟨fun h => absurd h (by decide), fun _ => by have hp := hF.put 1 g rfl (.int .i64 y); simp only [List.set_cons_zero, List.set_cons_succ] at hp; rw [HF1.out] at hp; exact hp, fun h => absurd h (by decide)⟩ trivial; revert hk; go_simp)
      case io11nx16 =>
       intro k1 w1 hk0 hk1 hb1 hS hd KK hK
       have d0 : x0 = .pointer (some ⟨w.heap.size + 1 + 1, 1, none⟩) := hd 0 (by kernel_rfl)
       have d1 : x1 = .slice (some ⟨gd, 0, none⟩) N dd := hd 1 (by kernel_rfl)
       have d2 : x2 = .int .i64 (g : Int) := hd 2 (by kernel_rfl)
       have d3 : x3 = .slice (some ⟨gp, 0, none⟩) N N := hd 3 (by kernel_rfl)
       have d4 : x4 = .int .i64 (g : Int) := hd 4 (by kernel_rfl)
       have d5 : x5 = .pointer (some ⟨w.heap.size, 1, none⟩) := hd 5 (by kernel_rfl)
       have d6 : x6 = .slice (some ⟨gy, oy, none⟩) ys.length d := hd 6 (by kernel_rfl)
       have d7 : x7 = .int .i64 (k : Int) := hd 7 (by kernel_rfl)
       have d8 : x8 = .pointer (some ⟨gy, oy + k, none⟩) := hd 8 (by kernel_rfl)
       have d9 : x9 = .int .i64 y := hd 9 (by kernel_rfl)
       have d10 : x10 = .slice (some ⟨gi, oi, none⟩) xs.length c1 := hd 10 (by kernel_rfl)
       have d11 : x11 = .int .i64 (ax : Int) := hd 11 (by kernel_rfl)
       have d12 : x12 = .pointer (some ⟨gi, oi + ax, none⟩) := hd 12 (by kernel_rfl)
       have d13 : x13 = .int .i64 hh := hd 13 (by kernel_rfl)
       have d14 : x14 = .pointer (some ⟨gd, g, none⟩) := hd 14 (by kernel_rfl)
       clear hd
       subst d0
       subst d1
       subst d2
       subst d3
       subst d4
       subst d5
       subst d6
       subst d7
       subst d8
       subst d9
       subst d10
       subst d11
       subst d12
       subst d13
       subst d14
       simp only [Act.put, List.setIfInBounds_toArray, List.set_cons_zero, List.set_cons_succ] at hK
       go_simp
       first | exact hK.out _ _ trivial hS rfl | (have hk := hK.out _ _ trivial hS rfl; revert hk; go_simp)
      case io11nx17 =>
       intro w1 hb1 hS hd KK hK
       have d0 : x0 = .pointer (some ⟨w.heap.size + 1 + 1, 1, none⟩) := hd 0 (by kernel_rfl)
       have d1 : x1 = .slice (some ⟨gd, 0, none⟩) N dd := hd 1 (by kernel_rfl)
       have d2 : x2 = .int .i64 (g : Int) := hd 2 (by kernel_rfl)
       have d3 : x3 = .slice (some ⟨gp, 0, none⟩) N N := hd 3 (by kernel_rfl)
       have d4 : x4 = .int .i64 (g : Int) := hd 4 (by kernel_rfl)
       have d5 : x5 = .pointer (some ⟨w.heap.size, 1, none⟩) := hd 5 (by kernel_rfl)
       have d6 : x6 = .slice (some ⟨gy, oy, none⟩) ys.length d := hd 6 (by kernel_rfl)
       have d7 : x7 = .int .i64 (k : Int) := hd 7 (by kernel_rfl)
       have d8 : x8 = .pointer (some ⟨gy, oy + k, none⟩) := hd 8 (by kernel_rfl)
       have d9 : x9 = .int .i64 y := hd 9 (by kernel_rfl)
       have d10 : x10 = .slice (some ⟨gi, oi, none⟩) xs.length c1 := hd 10 (by kernel_rfl)
       have d11 : x11 = .int .i64 (ax : Int) := hd 11 (by kernel_rfl)
       have d12 : x12 = .pointer (some ⟨gi, oi + ax, none⟩) := hd 12 (by kernel_rfl)
       have d13 : x13 = .int .i64 hh := hd 13 (by kernel_rfl)
       have d14 : x14 = .pointer (some ⟨gd, g, none⟩) := hd 14 (by kernel_rfl)
       have d16 : x16 = .pointer (some ⟨gp, g, none⟩) := hd 16 (by kernel_rfl)
       clear hd
       subst d0
       subst d1
       subst d2
       subst d3
       subst d4
       subst d5
       subst d6
       subst d7
       subst d8
       subst d9
       subst d10
       subst d11
       subst d12
       subst d13
       subst d14
       subst d16
       have hF := hS.2.1 rfl
       obtain ⟨kc, kf⟩ := hF.rc 2 g rfl (rangeV (PP k) hgn)
       simp only [Act.put, List.setIfInBounds_toArray, List.set_cons_zero, List.set_cons_succ] at hK
       go_simp
       first | exact hK.out undef _ trivial ⟨fun h => absurd h (by decide), fun h => absurd h (by decide), fun _ => by have hp := hF.put 2 g rfl (.int .i64 hh); simp only [List.set_cons_zero, List.set_cons_succ] at hp; rw [HF2.out] at hp; exact hp⟩ trivial | (have hk := hK.out undef _ trivial ⟨fun h => absurd h (by decide), fun h => absurd h (by decide), fun _ => by have hp := hF.put 2 g rfl (.int .i64 hh); simp only [List.set_cons_zero, List.set_cons_succ] at hp; rw [HF2.out] at hp; exact hp⟩ trivial; revert hk; go_simp)
      case iend11n =>
       intro w1 hb1 hS hR
       have d0 : x0 = .pointer (some ⟨w.heap.size + 1 + 1, 1, none⟩) := hR 0 (by decide)
       have d1 : x1 = .slice (some ⟨gd, 0, none⟩) N dd := hR 1 (by decide)
       have d2 : x2 = .int .i64 (g : Int) := hR 2 (by decide)
       have d3 : x3 = .slice (some ⟨gp, 0, none⟩) N N := hR 3 (by decide)
       have d4 : x4 = .int .i64 (g : Int) := hR 4 (by decide)
       have d5 : x5 = .pointer (some ⟨w.heap.size, 1, none⟩) := hR 5 (by decide)
       have d6 : x6 = .slice (some ⟨gy, oy, none⟩) ys.length d := hR 6 (by decide)
       have d7 : x7 = .int .i64 (k : Int) := hR 7 (by decide)
       have d8 : x8 = .pointer (some ⟨gy, oy + k, none⟩) := hR 8 (by decide)
       have d9 : x9 = .int .i64 y := hR 9 (by decide)
       have d10 : x10 = .slice (some ⟨gi, oi, none⟩) xs.length c1 := hR 10 (by decide)
       have d11 : x11 = .int .i64 (ax : Int) := hR 11 (by decide)
       have d12 : x12 = .pointer (some ⟨gi, oi + ax, none⟩) := hR 12 (by decide)
       have d13 : x13 = .int .i64 hh := hR 13 (by decide)
       have d14 : x14 = .pointer (some ⟨gd, g, none⟩) := hR 14 (by decide)
       have d16 : x16 = .pointer (some ⟨gp, g, none⟩) := hR 16 (by decide)
       clear hR
       subst d0
       subst d1
       subst d2
       subst d3
       subst d4
       subst d5
       subst d6
       subst d7
       subst d8
       subst d9
       subst d10
       subst d11
       subst d12
       subst d13
       subst d14
       subst d16
       try simp only [putAll, Act.put, List.setIfInBounds_toArray, List.set_cons_zero, List.set_cons_succ]
       have G4 := Lib.hid (hS.2.2 rfl)
       clear hS hb1 G3
       obtain ⟨V4, rfl⟩ : ∃ x : World, x = w1 := ⟨_, rfl⟩
       (repeat gi_step)
       have G5 := G4.out.putM 1 rfl (.loop (R .ready none)) rfl
       simp only [List.set_cons_zero, List.set_cons_succ] at G5
       simp only [List.map_map] at G5
       first | exact ⟨G4.out.m 1 rfl, G5⟩ | exact ⟨G4.out.m 1 rfl, .inl ⟨trivial, G5⟩⟩
     ·skip
      have htd : decide (tk < y) = false := by simpa using hty
      rw [htd]
      (repeat gi_step)
      have hne : ¬ (hh = 0 ∨ tk < y) := by rintro (h | h); exact hc0 h; exact hty h
      have eT : TT (k + 1) = TT k := funext fun i => by by_cases hi : g = i; exact ((HST2.out i).2.2 hi (by rw [← hi, HTK.out]; exact hne)).1; exact ((HST2.out i).1 hi).1
      have eP : PP (k + 1) = PP k := funext fun i => by by_cases hi : g = i; exact ((HST2.out i).2.2 hi (by rw [← hi, HTK.out]; exact hne)).2; exact ((HST2.out i).1 hi).2
      have G4 := G3
      skip
      have G4b : Hid (Fr w.heap.size w V3 [(w.heap.size, [.slice a xs.length c, .slice (some ⟨gy, oy, none⟩) ys.length d]), (w.heap.size + 1, [.int .i64 (ax : Int)]), (w.heap.size + 1 + 1, [.slice as_ S.length cs_, .slice (some ⟨gd, 0, none⟩) N dd]), (w.heap.size + 1 + 1 + 1, [.slice (some ⟨gp, 0, none⟩) N N]), (P, [.slice ap xs.length cp])] [(.i64, a, xs), (.i64, (some ⟨gy, oy, none⟩), ys)] [⟨3, .slice as_ S.length cs_, S.length, S.map (Value.int .i64)⟩, ⟨2, .slice (some ⟨gd, 0, none⟩) N dd, N, ((List.range N).map (TT (k + 1))).map (Value.int .i64)⟩, ⟨3, .slice (some ⟨gp, 0, none⟩) N N, N, ((List.range N).map (PP (k + 1))).map (Value.int .i64)⟩, ⟨3, .slice ap xs.length cp, xs.length, xs.map (Value.int .i64)⟩] [(D, .deferred (some [])), (D + 1, .loop (R .busy none))]) := Lib.hid (by rw [eT, eP]; exact G3.out)
      clear G4
      have G4 := G4b
      have G5 := G4.out.putM 1 rfl (.loop (R .ready none)) rfl
      simp only [List.set_cons_zero, List.set_cons_succ] at G5
      simp only [List.map_map] at G5
      first | exact ⟨G4.out.m 1 rfl, G5⟩ | exact ⟨G4.out.m 1 rfl, .inl ⟨trivial, G5⟩⟩
 case hdone =>
  rintro V o ho ⟨o2, F11⟩
  have FY := Lib.hid (F11.out.putM 1 rfl o ho)
  simp only [List.set_cons_zero, List.set_cons_succ] at FY
  generalize V.putObj (D + 1) o = V3 at *
  clear F11 F9 hD
  go_upto_region 12 with fail
  refine wp_region_inv (w := V3) 5 (fun _ _ => True) (fun _ W => Fr w.heap.size w W [(w.heap.size, [.slice a xs.length c, .slice b ys.length d]), (w.heap.size + 1, [.int .i64 (ax : Int)]), (w.heap.size + 1 + 1, [.slice as_ S.length cs_, .slice (some ⟨gd, 0, none⟩) N dd]), (w.heap.size + 1 + 1 + 1, [.slice (some ⟨gp, 0, none⟩) N N]), (P, [.slice ap xs.length cp])] [(.i64, a, xs), (.i64, b, ys)] [⟨3, .slice as_ S.length cs_, S.length, S.map (Value.int .i64)⟩, ⟨2, .slice (some ⟨gd, 0, none⟩) N dd, N, ((List.range N).map (TT M)).map (Value.int .i64)⟩, ⟨3, .slice (some ⟨gp, 0, none⟩) N N, N, ((List.range N).map (PP M)).map (Value.int .i64)⟩, ⟨3, .slice ap xs.length cp, xs.length, xs.map (Value.int .i64)⟩] [(D, .deferred (some [])), (D + 1, o)]) [2, 3] [(fun u _ => u = .agg #[.slice as_ S.length cs_, .slice (some ⟨gd, 0, none⟩) N dd]), (fun u _ => u = .slice (some ⟨gp, 0, none⟩) N N), (fun _ _ => True), (fun _ _ => True), (fun u _ => u = .int .i64 0)] [some 75, some 76, none, none, some 6] (by kernel_rfl) (by kernel_rfl) rfl (by kernel_rfl) (by kernel_rfl) (by decide) (by decide) (fun _ _ => trivial) trivial FY.out.drew (BorneAll.at (.cons (borne_eq _) (.cons (borne_eq _) (.cons (fun _ _ _ _ _ => trivial) (.cons (fun _ _ _ _ _ => trivial) (.cons (borne_eq _) .nil)))))) (fun vs b hvl hvb => ?_)
  obtain ⟨x0, x1, x2, x3, x4, rfl⟩ : ∃ x0 x1 x2 x3 x4, vs = [x0, x1, x2, x3, x4] := lst5 hvl
  clear hvl
  simp only [putAll, Act.put, List.setIfInBounds_toArray, List.set_cons_zero, List.set_cons_succ] at hvb
  subst hvb
  refine ⟨(.snoc (.snoc (.snoc (.snoc (.snoc .zero (InvOb.intro (d := (some 75)) (r := fun u _ => u = .agg #[.slice as_ S.length cs_, .slice (some ⟨gd, 0, none⟩) N dd]) 0 0 rfl rfl rfl (by kernel_rfl) (by kernel_rfl) rfl ?io12x0)) (InvOb.intro (d := (some 76)) (r := fun u _ => u = .slice (some ⟨gp, 0, none⟩) N N) 0 1 rfl rfl rfl (by kernel_rfl) (by kernel_rfl) rfl ?io12x1)) (InvOb.put (d := none) (r := fun _ _ => True) 0 rfl rfl rfl (by kernel_rfl) (by kernel_rfl) rfl ?io12x2)) (InvOb.put (d := none) (r := fun _ _ => True) 1 rfl rfl rfl (by kernel_rfl) (by kernel_rfl) rfl ?io12x3)) (InvOb.intro (d := (some 6)) (r := fun u _ => u = .int .i64 0) 2 2 rfl rfl rfl (by kernel_rfl) (by kernel_rfl) rfl ?io12x4)), ?iend12⟩
  case io12x0 =>
   intro k1 w1 hk0 hk1 hb1 hS hd KK hK
   clear hd
   have k0 := hS.c 2 0 rfl rfl
   have k1 := hS.c 2 1 rfl rfl
   simp only [Act.put, List.setIfInBounds_toArray, List.set_cons_zero, List.set_cons_succ] at hK
   go_simp
   first | exact hK.out _ _ trivial hS rfl | (have hk := hK.out _ _ trivial hS rfl; revert hk; go_simp)
  case io12x1 =>
   intro k1 w1 hk0 hk1 hb1 hS hd KK hK
   clear hd
   have k0 := hS.c 3 0 rfl rfl
   simp only [Act.put, List.setIfInBounds_toArray, List.set_cons_zero, List.set_cons_succ] at hK
   go_simp
   first | exact hK.out _ _ trivial hS rfl | (have hk := hK.out _ _ trivial hS rfl; revert hk; go_simp)
  case io12x2 =>
   intro w1 hb1 hS hd KK hK
   have d0 : x0 = .agg #[.slice as_ S.length cs_, .slice (some ⟨gd, 0, none⟩) N dd] := hd 0 (by kernel_rfl)
   clear hd
   subst d0
   have k0 := hS.c 2 0 rfl rfl
   have k1 := hS.c 2 1 rfl rfl
   have kf0 := hS.f 2 0 rfl rfl
   have kf1 := hS.f 2 1 rfl rfl
   simp only [Act.put, List.setIfInBounds_toArray, List.set_cons_zero, List.set_cons_succ] at hK
   go_simp
   first | exact hK.out undef _ trivial (hS.set 2 rfl (by simp) [.slice as_ S.length cs_, .slice (some ⟨gd, 0, none⟩) N dd] rfl) trivial | (have hk := hK.out undef _ trivial (hS.set 2 rfl (by simp) [.slice as_ S.length cs_, .slice (some ⟨gd, 0, none⟩) N dd] rfl) trivial; revert hk; go_simp)
  case io12x3 =>
   intro w1 hb1 hS hd KK hK
   have d0 : x0 = .agg #[.slice as_ S.length cs_, .slice (some ⟨gd, 0, none⟩) N dd] := hd 0 (by kernel_rfl)
   have d1 : x1 = .slice (some ⟨gp, 0, none⟩) N N := hd 1 (by kernel_rfl)
   clear hd
   subst d0
   subst d1
   have k0 := hS.c 3 0 rfl rfl
   have kf0 := hS.f 3 0 rfl rfl
   simp only [Act.put, List.setIfInBounds_toArray, List.set_cons_zero, List.set_cons_succ] at hK
   go_simp
   first | exact hK.out undef _ trivial (hS.set 3 rfl (by simp) [.slice (some ⟨gp, 0, none⟩) N N] rfl) trivial | (have hk := hK.out undef _ trivial (hS.set 3 rfl (by simp) [.slice (some ⟨gp, 0, none⟩) N N] rfl) trivial; revert hk; go_simp)
  case io12x4 =>
   intro k1 w1 hk0 hk1 hb1 hS hd KK hK
   have d0 : x0 = .agg #[.slice as_ S.length cs_, .slice (some ⟨gd, 0, none⟩) N dd] := hd 0 (by kernel_rfl)
   have d1 : x1 = .slice (some ⟨gp, 0, none⟩) N N := hd 1 (by kernel_rfl)
   clear hd
   subst d0
   subst d1
   simp only [Act.put, List.setIfInBounds_toArray, List.set_cons_zero, List.set_cons_succ] at hK
   go_simp
   first | exact hK.out _ _ trivial hS rfl | (have hk := hK.out _ _ trivial hS rfl; revert hk; go_simp)
  case iend12 =>
   intro w1 hb1 hS hR
   have d0 : x0 = .agg #[.slice as_ S.length cs_, .slice (some ⟨gd, 0, none⟩) N dd] := hR 0 (by decide)
   have d1 : x1 = .slice (some ⟨gp, 0, none⟩) N N := hR 1 (by decide)
   have d4 : x4 = .int .i64 0 := hR 4 (by decide)
   clear hR
   subst d0
   subst d1
   subst d4
   try simp only [putAll, Act.put, List.setIfInBounds_toArray, List.set_cons_zero, List.set_cons_succ]
   have FW := Lib.hid hS
   clear hS hb1 FY
   go_wp2
   refine ⟨by simp, .inl ⟨_, _, rfl, run_takeDeferred (FW.out.m 0 rfl), ?_⟩⟩
   have FV := FW.out.putM 0 rfl (.deferred none) rfl
   simp only [List.set_cons_zero, List.set_cons_succ] at FV
   generalize w1.putObj D (.deferred none) = U at *
   have y2 := FV.c 2 0 rfl rfl
   have y3 := FV.c 2 1 rfl rfl
   have y4 := FV.c 3 0 rfl rfl
   have hl1 : ((List.range N).map (TT M)).length = N := by simp
   have hl2 : ((List.range N).map (PP M)).length = N := by simp
   have hpost : RetMX w S ((List.range N).map (TT ys.length)) ((List.range N).map (PP ys.length)) 0 (.returned (.tuple #[.agg #[.slice as_ S.length cs_, .slice (some ⟨gd, 0, none⟩) N dd], .slice (some ⟨gp, 0, none⟩) N N, .int .i64 0])) U := ⟨as_, cs_, some ⟨gd, 0, none⟩, dd, some ⟨gp, 0, none⟩, N, by rw [HM.out, hl1, hl2], by rw [HM.out, hl1, hl2]; exact FV.less (List.nil_sublist _) (List.nil_sublist _) (.cons_cons _ (.cons_cons _ (.cons_cons _ (.cons _ .slnil)))) (List.nil_sublist _)⟩
   refine ⟨_, ?_, hpost⟩
   rw [results_ccM rfl]
   go_simp
theorem rmax_all (a b : Option Addr) (c d : Nat) (xs ys : List Int) (x : Int) (w : World) (h : Ints .i64 w w.heap.size a xs) (h2 : Ints .i64 w w.heap.size b ys) (hx : -9223372036854775808 ≤ x ∧ x ≤ 9223372036854775807) :
  Calls Try.prog 18 #[.agg #[.slice a xs.length c, .slice b ys.length d], .int .i64 x] w (RetMX w (mxX xs ys x) (mxY xs ys x) (mxP xs ys x) (mxZ xs ys x)) := by
 by_cases hz : ckZ xs ys [x] = 0
 ·obtain ⟨ht, hax⟩ := ckZ_ok hz
  have hb : 0 ≤ x ∧ x < xs.length := by
   simp only [axB, Bool.and_true, Bool.and_eq_true, decide_eq_true_eq] at hax
   omega
  obtain ⟨ax, rfl⟩ : ∃ k : Nat, x = k := ⟨x.toNat, by omega⟩
  unfold mxX mxY mxP mxZ
  rw [hz, zL_0, zL_0, zL_0, Int.toNat_natCast]
  exact rmax_good a b c d ax xs ys w h h2 ht (by omega) hz
 ·unfold mxX mxY mxP mxZ
  rw [zL_ne _ hz, zL_ne _ hz, zL_ne _ hz]
  exact rmax_bad a b c d xs ys x w h h2 hx hz

end Go.Proofs.Ytmjcpgfekpedkaa
