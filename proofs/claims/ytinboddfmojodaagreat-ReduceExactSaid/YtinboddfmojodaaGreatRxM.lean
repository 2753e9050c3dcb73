/- Walks: the reference's Max. -/
import Derived.Test.YtinboddfmojodaaGreatRxA
set_option linter.unusedVariables false
set_option linter.unusedSimpArgs false
namespace Go.Proofs.YtinboddfmojodaaGreat
open Go.RowKit Go.Rt
/-- A tensor and a list handed back. -/
def RetM2 (w : World) (sh ys ps : List Int) (e : Ending) (w' : World) : Prop :=
  ∃ a c b d p q, e = .returned (.tuple #[.agg #[.slice a sh.length c, .slice b ys.length d], .slice p ps.length q]) ∧ Fr w.heap.size w w' [] [] [⟨3, .slice a sh.length c, sh.length, sh.map (Value.int .i64)⟩, ⟨2, .slice b ys.length d, ys.length, ys.map (Value.int .i64)⟩, ⟨3, .slice p ps.length q, ps.length, ps.map (Value.int .i64)⟩] []

attribute [local go_sem] Oper.semAt_some
set_option maxRecDepth 100000 in
set_option maxHeartbeats 4000000 in
theorem rmax8_any (a b : Option Addr) (c d ax : Nat) (xs ys : List Int) (w : World) (h : Ints .i64 w w.heap.size a xs) (h2 : Ints .i64 w w.heap.size b ys) (ht : tenB xs ys = true) (hax : ax < xs.length) :
    Calls Tryz.prog 8 #[.agg #[.slice a xs.length c, .slice b ys.length d], .int .i64 (ax : Int)] w (RetM2 w (restL xs [(ax : Int)]) ((List.range (smN xs [(ax : Int)])).map (mxT xs ys ax ys.length)) ((List.range (smN xs [(ax : Int)])).map (mxQ xs ys ax ys.length))) := by
  have H0 := Lib.hid h
  have H1 := Lib.hid h2
  have lT := tenB_iff.1 ht
  have hg := lT.1
  have hlen := lT.2.1
  have hx4 := (goodB_iff.1 hg).1
  have hP := goodB_prod hg
  obtain ⟨b1, b2, b3, b4, b5, b6⟩ := sm_bounds [(ax : Int)] ht
  have hgS := restL_good (axes := [(ax : Int)]) hg
  have hib := fun n : Int => into_bound [(ax : Int)] n hg
  have hle := fun q W h h2 => left8_any a (some ⟨q, 0, none⟩) c 1 xs [(ax : Int)] W h h2 (by omega)
  have hxw : (Lit.int .i64 (ax : Int)).wf = true := wf_i64_iff.2 ⟨by omega, by omega⟩
  have hax4 : ax < 4 := by omega
  obtain ⟨N, hN⟩ : ∃ N, smN xs [(ax : Int)] = N := ⟨_, rfl⟩
  rw [hN] at b1 b2 b3 ⊢
  rw [b1] at hib
  obtain ⟨G, hG⟩ : ∃ G : Nat → Nat, mxG xs ax = G := ⟨_, rfl⟩
  have hGI : ∀ n : Nat, intoI xs [(ax : Int)] n = (G n : Int) ∧ G n < N := fun n => by
    have := hib n
    rw [← hG]
    exact ⟨by show _ = ((intoI xs [(ax : Int)] n).toNat : Int); omega, by show (intoI xs [(ax : Int)] n).toNat < N; omega⟩
  obtain ⟨S, hS⟩ : ∃ S, restL xs [(ax : Int)] = S := ⟨_, rfl⟩
  rw [hS] at hgS b1 hle ⊢
  have hcn := fun a9 c9 W (h : Ints .i64 W W.heap.size a9 S) => rcount_any a9 c9 (World.heap W).size S W h (goodB_dims hgS)
  rw [countE_good hgS, b1] at hcn
  have hwl : ∀ x ∈ S, (Lit.int .i64 x).wf = true := wf_dims (fun x hx => by have := goodB_dims hgS x hx; omega)
  obtain ⟨TT, hTT⟩ : ∃ T, mxT xs ys ax = T := ⟨_, rfl⟩
  obtain ⟨PP, hPP⟩ : ∃ T, mxQ xs ys ax = T := ⟨_, rfl⟩
  rw [hTT, hPP]
  have hT0 : TT 0 = fun _ => 0 := by rw [← hTT]; rfl
  have hP0 : PP 0 = fun _ => 0 := by rw [← hPP]; rfl
  have hstep : ∀ n k, (G n ≠ k → TT (n + 1) k = TT n k ∧ PP (n + 1) k = PP n k) ∧ (G n = k → (hereI xs ax n = 0 ∨ TT n k < ys[n]?.getD 0) → TT (n + 1) k = ys[n]?.getD 0 ∧ PP (n + 1) k = hereI xs ax n) ∧ (G n = k → ¬ (hereI xs ax n = 0 ∨ TT n k < ys[n]?.getD 0) → TT (n + 1) k = TT n k ∧ PP (n + 1) k = PP n k) := fun n k => by
    rw [← hTT, ← hPP, ← hG]
    unfold mxT mxQ
    refine ⟨fun h => ?_, fun h h2 => ?_, fun h h2 => ?_⟩
    · rw [mxK_ne h]; exact ⟨rfl, rfl⟩
    · rw [mxK_at h]; unfold mxS; rw [if_pos h2]; exact ⟨rfl, rfl⟩
    · rw [mxK_at h]; unfold mxS; rw [if_neg h2]; exact ⟨rfl, rfl⟩
  have hMx : prodI xs = (ys.length : Int) := by omega
  have hin := fun q W (k : Nat) h h2 (hk : k < ys.length) => into8_any a (some ⟨q, 0, none⟩) c 1 xs [(ax : Int)] (k : Int) W h h2 hg (by omega) (by omega)
  have hat := fun W (k : Nat) h (hk : k < ys.length) => rat_any a c xs (k : Int) W h hg (by omega) (by omega)
  have hsl := fun k : Nat => standsI_length xs (k : Int)
  have hget := fun k : Nat => hereI_get k hax
  have hswf : ∀ k : Nat, ∀ x ∈ standsI xs (k : Int), (Lit.int .i64 x).wf = true := fun k => wf_stands (goodB_dims hg)
  have HGI := Lib.hid hGI
  have HWL := Lib.hid hwl
  have HWX := Lib.hid h.wf
  have HXW := Lib.hid hxw
  have HLE := Lib.hid hle
  have HCN := Lib.hid hcn
  have HST := Lib.hid hstep
  have HT0 := Lib.hid hT0
  have HP0 := Lib.hid hP0
  have HIN := Lib.hid hin
  have HAT := Lib.hid hat
  have HSL := Lib.hid hsl
  have HGET := Lib.hid hget
  have HSWF := Lib.hid hswf
  have hM2 : ys.length ≤ 65536 := by omega
  have hN2 : N ≤ 65536 := by omega
  have HAX := Lib.hid hax
  clear h h2 ht lT hg hlen hP b1 b3 b4 b5 b6 hgS hib hle hxw hN hG hGI hwl hTT hPP hT0 hP0 hstep hMx hS hcn hin hat hsl hget hswf
  go_enter Tryz.func8, Tryz.ntmps8
  have F1 := Lib.hid (((Fr.start (w := w) (I := [(.i64, a, xs), (.i64, b, ys)]) (by intro z hz; simp at hz; rcases hz with rfl | rfl; exact H0.out; exact H1.out)).box1 (b := w.heap.size) (by simp) [.slice a xs.length c, .slice b ys.length d] 26).box1 (b := w.heap.size + 1) (by simp) [.slice none 0 0, .slice none 0 0] 26)
  simp only [List.nil_append, List.cons_append] at F1
  go_upto_region 1 with fail
  obtain ⟨W1, hW1⟩ : ∃ W1, ((w.alloc (.cells #[.slice a xs.length c, .slice b ys.length d] 26)).alloc (.cells #[.slice none 0 0, .slice none 0 0] 26)) = W1 := ⟨_, rfl⟩
  rw [hW1] at F1 ⊢
  clear hW1
  go_upto_region 2 with fail
  obtain ⟨X2, hX2⟩ : ∃ x, W1.heap.size = x := ⟨_, rfl⟩
  rw [hX2]
  have F2 := Lib.hid (F1.out.box1 (b := X2) hX2 [.int .i64 (ax : Int)] 3)
  simp only [List.nil_append, List.cons_append] at F2
  obtain ⟨W2, hW2⟩ : ∃ x, (W1.alloc (.cells #[.int .i64 (ax : Int)] 3)) = x := ⟨_, rfl⟩
  rw [hW2] at F2 ⊢
  clear hW2 hX2 F1
  have c0_0 := F2.out.c 0 0 rfl rfl
  have c0_1 := F2.out.c 0 1 rfl rfl
  go_upto_region 3 with (first | (go_at_call 20; refine (HLE.out _ _ (F2.out.lw 0 rfl) (ints_of_box (xs := [(ax : Int)]) (F2.out.box _ (List.mem_of_getElem? (i := 2) rfl)).1 (F2.out.bl 2 rfl).2 (by simp) (fun z hz => by obtain rfl := List.mem_singleton.1 hz; exact HXW.out))).mono ?_; rintro e w3 ⟨v, rfl, hown, hb⟩; obtain ⟨as_, cs_, rfl, _⟩ := own_shape hown; have F3 := Lib.hid (F2.out.addO hb hown); simp only [List.nil_append] at F3; clear hown hb F2 c0_0 c0_1) | fail)
  go_upto_region 4 with (first | (go_at_call 18; refine (HCN.out as_ cs_ _ (F3.out.li 0 (k := .i64) (xs := S) rfl HWL.out)).mono ?_; rintro e w' ⟨rfl, rfl⟩) | (at_make; (refine wpl_make 24 2 .i64 infoI64 Tryz.underlying24 w3.heap.size N _ _ _ _ rfl rfl rfl rfl rfl rfl (by omega) (Nat.le_refl _) ?_); intro w4 hown hgrow hsz6; have F4 := Lib.hid (F3.out.addO (hgrow _ (Nat.le_refl _)) hown); simp only [List.cons_append, List.nil_append] at F4; clear hown hgrow F3; obtain ⟨gd, hgd⟩ : ∃ g, w3.heap.size = g := ⟨_, rfl⟩; rw [hgd] at F4; (try rw [hgd]); clear hgd hsz6) | fail)
  obtain ⟨X8, hX8⟩ : ∃ x, w4.heap.size = x := ⟨_, rfl⟩
  rw [hX8]
  have F5 := Lib.hid (F4.out.box1 (b := X8) hX8 [.slice as_ S.length cs_, .slice (some ⟨gd, 0, none⟩) N N] 26)
  simp only [List.nil_append, List.cons_append] at F5
  obtain ⟨W5, hW5⟩ : ∃ x, (w4.alloc (.cells #[.slice as_ S.length cs_, .slice (some ⟨gd, 0, none⟩) N N] 26)) = x := ⟨_, rfl⟩
  rw [hW5] at F5 ⊢
  clear hW5 hX8 F4
  have c3_0 := F5.out.c 3 0 rfl rfl
  have c3_1 := F5.out.c 3 1 rfl rfl
  go_upto_region 5 with (first | (at_make; (refine wpl_make 23 3 .i64 infoInt Tryz.underlying23 W5.heap.size N _ _ _ _ rfl rfl rfl rfl rfl rfl (by omega) (Nat.le_refl _) ?_); intro w6 hown hgrow hsz6; have F6 := Lib.hid (F5.out.addO (hgrow _ (Nat.le_refl _)) hown); simp only [List.cons_append, List.nil_append] at F6; clear hown hgrow F5; obtain ⟨gp, hgp⟩ : ∃ g, W5.heap.size = g := ⟨_, rfl⟩; rw [hgp] at F6; (try rw [hgp]); clear hgp hsz6) | fail)
  clear c3_0 c3_1
  have hz0 := range_zero N
  rw [← hz0] at F6
  have F6b := F6.out
  have e1 : (List.range N).map (fun _ => (0 : Int)) = (List.range N).map (TT 0) := by rw [HT0.out]
  have e2 : (List.range N).map (fun _ => (0 : Int)) = (List.range N).map (PP 0) := by rw [HP0.out]
  have F7 : Hid (Fr w.heap.size w w6 [(w.heap.size, [.slice a xs.length c, .slice b ys.length d]), (w.heap.size + 1, [.slice none 0 0, .slice none 0 0]), (X2, [.int .i64 (ax : Int)]), (X8, [.slice as_ S.length cs_, .slice (some ⟨gd, 0, none⟩) N N])] [(.i64, a, xs), (.i64, b, ys)] [⟨3, .slice as_ S.length cs_, S.length, S.map (Value.int .i64)⟩, ⟨2, .slice (some ⟨gd, 0, none⟩) N N, N, ((List.range N).map (TT 0)).map (Value.int .i64)⟩, ⟨3, .slice (some ⟨gp, 0, none⟩) N N, N, ((List.range N).map (PP 0)).map (Value.int .i64)⟩] []) := Lib.hid (by rw [← e1, ← e2]; exact F6b)
  clear F6 F6b hz0 e1 e2
  go_wp2_with fail
  go_loopw [10] (fun i wr => ∃ k : Nat, k ≤ ys.length ∧ i = .int .i64 k ∧ Hid (Fr w.heap.size w wr [(w.heap.size, [.slice a xs.length c, .slice b ys.length d]), (w.heap.size + 1, [.slice none 0 0, .slice none 0 0]), (X2, [.int .i64 (ax : Int)]), (X8, [.slice as_ S.length cs_, .slice (some ⟨gd, 0, none⟩) N N])] [(.i64, a, xs), (.i64, b, ys)] [⟨3, .slice as_ S.length cs_, S.length, S.map (Value.int .i64)⟩, ⟨2, .slice (some ⟨gd, 0, none⟩) N N, N, ((List.range N).map (TT k)).map (Value.int .i64)⟩, ⟨3, .slice (some ⟨gp, 0, none⟩) N N, N, ((List.range N).map (PP k)).map (Value.int .i64)⟩] [])) (fun i _ => ys.length - (intOf i).toNat)
  case atStart => exact ⟨0, Nat.zero_le _, rfl, F7⟩
  case round =>
    obtain ⟨k, hk, rfl, F8⟩ := hrel
    clear F7
    obtain ⟨wi, rfl⟩ : ∃ x : World, x = wr := ⟨_, rfl⟩
    have c0_0 := F8.out.c 0 0 rfl rfl
    have c0_1 := F8.out.c 0 1 rfl rfl
    by_cases hlk : k < ys.length
    · skip
      obtain ⟨hgi, hgn⟩ := HGI.out k
      obtain ⟨g, hg⟩ : ∃ g, G k = g := ⟨_, rfl⟩
      rw [hg] at hgi hgn
      have HGK := Lib.hid hg
      clear hg
      have hin := fun W h h2 => HIN.out X2 W k h h2 hlk
      rw [hgi] at hin
      have hat := fun W h => HAT.out W k h hlk
      have hget := HGET.out k
      have hsl := HSL.out k
      have hswf := HSWF.out k
      obtain ⟨hh, hhe⟩ : ∃ h, hereI xs ax k = h := ⟨_, rfl⟩
      rw [hhe] at hget
      obtain ⟨SJ, hSJ⟩ : ∃ l, standsI xs (k : Int) = l := ⟨_, rfl⟩
      rw [hSJ] at hget hsl hswf hat
      have HHE := Lib.hid hhe
      have HINK := Lib.hid hin
      have HATK := Lib.hid hat
      have HGT := Lib.hid hget
      have HSLK := Lib.hid hsl
      have hal3 : (ax : Int) < (xs.length : Int) := by have := HAX.out; omega
      have hki : (k : Int) < (ys.length : Int) := by omega
      have hgi2 : (g : Int) < (N : Int) := by omega
      clear hin hat hget hsl hswf hhe hSJ hgi
      go_upto_region 9 with (first | (go_at_call 26; refine (HATK.out _ (F8.out.lw 0 rfl)).mono ?_; rintro e w10 ⟨v, rfl, hown, hb⟩; obtain ⟨a10, c10, rfl, hsh⟩ := own_shape hown; obtain ⟨g10, rfl, _⟩ := hsh.resolve_left (show ¬ SJ.length = 0 from by have := HSLK.out; have := HAX.out; omega); have F10 := Lib.hid (F8.out.addO hb hown); simp only [List.cons_append, List.nil_append] at F10; rw [HSLK.out] at F10 ⊢; clear hsh hown hb F8 c0_0 c0_1; have hrm := (F10.out.rc 3 ax rfl (u := .int .i64 hh) (by rw [List.getElem?_map, HGT.out]; rfl)).1) | fail)
      clear hrm
      have F11 := Lib.hid (F10.out.less (.refl _) (.refl _) (.cons_cons _ (.cons_cons _ (.cons_cons _ (.cons _ .slnil)))) (.refl _))
      clear F10
      have c0_0 := F11.out.c 0 0 rfl rfl
      have c0_1 := F11.out.c 0 1 rfl rfl
      go_upto_region 10 with (first | (go_at_call 21; refine (HINK.out _ (F11.out.lw 0 rfl) (ints_of_box (xs := [(ax : Int)]) (F11.out.box _ (List.mem_of_getElem? (i := 2) rfl)).1 (F11.out.bl 2 rfl).2 (by simp) (fun z hz => by obtain rfl := List.mem_singleton.1 hz; exact HXW.out))).mono ?_; rintro e w12 ⟨rfl, hb⟩; have F12 := Lib.hid (F11.out.next hb); clear hb F11 c0_0 c0_1) | fail)
      obtain ⟨gy, oy, rfl, hlb, _⟩ := (F12.out.l 1 rfl).cell k hlk
      have hst := HST.out k
      obtain ⟨y, hy⟩ : ∃ x, ys[k]?.getD 0 = x := ⟨_, rfl⟩
      rw [hy, HHE.out, HGK.out] at hst
      have HST2 := Lib.hid hst
      have HY := Lib.hid hy
      obtain ⟨tk, htk2⟩ : ∃ t, TT k g = t := ⟨_, rfl⟩
      have HTK := Lib.hid htk2
      obtain ⟨V2, rfl⟩ : ∃ x : World, x = w12 := ⟨_, rfl⟩
      clear hst hy htk2
      by_cases hc0 : hh = 0
      · skip
        have hd0 : (hh == 0) = true := by simpa using hc0
        refine wp_region_inv (w := V2) 15 (fun _ _ => True) (fun _ W => Fr w.heap.size w W [(w.heap.size, [.slice a xs.length c, .slice (some ⟨gy, oy, none⟩) ys.length d]), (w.heap.size + 1, [.slice none 0 0, .slice none 0 0]), (X2, [.int .i64 (ax : Int)]), (X8, [.slice as_ S.length cs_, .slice (some ⟨gd, 0, none⟩) N N])] [(.i64, a, xs), (.i64, (some ⟨gy, oy, none⟩), ys)] [⟨3, .slice as_ S.length cs_, S.length, S.map (Value.int .i64)⟩, ⟨2, .slice (some ⟨gd, 0, none⟩) N N, N, ((List.range N).map (TT k)).map (Value.int .i64)⟩, ⟨3, .slice (some ⟨gp, 0, none⟩) N N, N, ((List.range N).map (PP k)).map (Value.int .i64)⟩] []) [] [(fun u _ => u = .int .i64 hh), (fun u _ => u = .bool true), (fun u _ => u = .bool true), (fun u _ => u = undef), (fun u _ => u = undef), (fun u _ => u = undef), (fun u _ => u = undef), (fun u _ => u = undef), (fun u _ => u = undef), (fun u _ => u = undef), (fun u _ => u = undef), (fun u _ => u = undef), (fun u _ => u = undef), (fun u _ => u = undef), (fun u _ => u = .bool true)] [some 47, some 48, some 49, some 50, some 51, some 52, some 53, some 54, some 55, some 56, some 57, some 58, some 59, some 60, some 61] (by kernel_rfl) (by kernel_rfl) rfl (by kernel_rfl) (by kernel_rfl) (by decide) (by decide) (fun _ _ => trivial) trivial F12.out.drew (BorneAll.at (.cons (borne_eq _) (.cons (borne_eq _) (.cons (borne_eq _) (.cons (borne_eq _) (.cons (borne_eq _) (.cons (borne_eq _) (.cons (borne_eq _) (.cons (borne_eq _) (.cons (borne_eq _) (.cons (borne_eq _) (.cons (borne_eq _) (.cons (borne_eq _) (.cons (borne_eq _) (.cons (borne_eq _) (.cons (borne_eq _) .nil)))))))))))))))) (fun vs b hvl hvb => ?_)
        obtain ⟨x0, x1, x2, x3, x4, x5, x6, x7, x8, x9, x10, x11, x12, x13, x14, rfl⟩ : ∃ x0 x1 x2 x3 x4 x5 x6 x7 x8 x9 x10 x11 x12 x13 x14, vs = [x0, x1, x2, x3, x4, x5, x6, x7, x8, x9, x10, x11, x12, x13, x14] := lst15 hvl
        clear hvl
        simp only [putAll, Act.put, List.setIfInBounds_toArray, List.set_cons_zero, List.set_cons_succ] at hvb
        subst hvb
        refine ⟨(.snoc (.snoc (.snoc (.snoc (.snoc (.snoc (.snoc (.snoc (.snoc (.snoc (.snoc (.snoc (.snoc (.snoc (.snoc .zero (InvOb.intro (d := (some 47)) (r := fun u _ => u = .int .i64 hh) 0 0 rfl rfl rfl (by kernel_rfl) (by kernel_rfl) rfl ?io10zx0)) (InvOb.intro (d := (some 48)) (r := fun u _ => u = .bool true) 0 0 rfl rfl rfl (by kernel_rfl) (by kernel_rfl) rfl ?io10zx1)) (InvOb.intro (d := (some 49)) (r := fun u _ => u = .bool true) 0 0 rfl rfl rfl (by kernel_rfl) (by kernel_rfl) rfl ?io10zx2)) (InvOb.intro (d := (some 50)) (r := fun u _ => u = undef) 0 0 rfl rfl rfl (by kernel_rfl) (by kernel_rfl) rfl ?io10zx3)) (InvOb.intro (d := (some 51)) (r := fun u _ => u = undef) 0 0 rfl rfl rfl (by kernel_rfl) (by kernel_rfl) rfl ?io10zx4)) (InvOb.intro (d := (some 52)) (r := fun u _ => u = undef) 0 0 rfl rfl rfl (by kernel_rfl) (by kernel_rfl) rfl ?io10zx5)) (InvOb.intro (d := (some 53)) (r := fun u _ => u = undef) 0 0 rfl rfl rfl (by kernel_rfl) (by kernel_rfl) rfl ?io10zx6)) (InvOb.intro (d := (some 54)) (r := fun u _ => u = undef) 0 0 rfl rfl rfl (by kernel_rfl) (by kernel_rfl) rfl ?io10zx7)) (InvOb.intro (d := (some 55)) (r := fun u _ => u = undef) 0 0 rfl rfl rfl (by kernel_rfl) (by kernel_rfl) rfl ?io10zx8)) (InvOb.intro (d := (some 56)) (r := fun u _ => u = undef) 0 0 rfl rfl rfl (by kernel_rfl) (by kernel_rfl) rfl ?io10zx9)) (InvOb.intro (d := (some 57)) (r := fun u _ => u = undef) 0 0 rfl rfl rfl (by kernel_rfl) (by kernel_rfl) rfl ?io10zx10)) (InvOb.intro (d := (some 58)) (r := fun u _ => u = undef) 0 0 rfl rfl rfl (by kernel_rfl) (by kernel_rfl) rfl ?io10zx11)) (InvOb.intro (d := (some 59)) (r := fun u _ => u = undef) 0 0 rfl rfl rfl (by kernel_rfl) (by kernel_rfl) rfl ?io10zx12)) (InvOb.intro (d := (some 60)) (r := fun u _ => u = undef) 0 0 rfl rfl rfl (by kernel_rfl) (by kernel_rfl) rfl ?io10zx13)) (InvOb.intro (d := (some 61)) (r := fun u _ => u = .bool true) 0 0 rfl rfl rfl (by kernel_rfl) (by kernel_rfl) rfl ?io10zx14)), ?iend10z⟩
        case io10zx0 =>
          intro k1 w1 hk0 hk1 hb1 hS hd KK hK
          clear hd
          simp only [Act.put, List.setIfInBounds_toArray, List.set_cons_zero, List.set_cons_succ] at hK
          go_simp
          first | exact hK.out _ _ trivial hS rfl | (have hk := hK.out _ _ trivial hS rfl; revert hk; go_simp)
        case io10zx1 =>
          intro k1 w1 hk0 hk1 hb1 hS hd KK hK
          have d0 : x0 = .int .i64 hh := hd 0 (by kernel_rfl)
          clear hd
          subst d0
          simp only [Act.put, List.setIfInBounds_toArray, List.set_cons_zero, List.set_cons_succ] at hK
          go_simp
          first | exact hK.out _ _ trivial hS rfl | (have hk := hK.out _ _ trivial hS rfl; revert hk; go_simp)
        case io10zx2 =>
          intro k1 w1 hk0 hk1 hb1 hS hd KK hK
          have d1 : x1 = .bool true := hd 1 (by kernel_rfl)
          clear hd
          subst d1
          simp only [Act.put, List.setIfInBounds_toArray, List.set_cons_zero, List.set_cons_succ] at hK
          go_simp
          first | exact hK.out _ _ trivial hS rfl | (have hk := hK.out _ _ trivial hS rfl; revert hk; go_simp)
        case io10zx3 =>
          intro k1 w1 hk0 hk1 hb1 hS hd KK hK
          have d2 : x2 = .bool true := hd 2 (by kernel_rfl)
          clear hd
          subst d2
          simp only [Act.put, List.setIfInBounds_toArray, List.set_cons_zero, List.set_cons_succ] at hK
          go_simp
          first | exact hK.out _ _ trivial hS rfl | (have hk := hK.out _ _ trivial hS rfl; revert hk; go_simp)
        case io10zx4 =>
          intro k1 w1 hk0 hk1 hb1 hS hd KK hK
          have d2 : x2 = .bool true := hd 2 (by kernel_rfl)
          have d3 : x3 = undef := hd 3 (by kernel_rfl)
          clear hd
          subst d2
          subst d3
          simp only [Act.put, List.setIfInBounds_toArray, List.set_cons_zero, List.set_cons_succ] at hK
          go_simp
          first | exact hK.out _ _ trivial hS rfl | (have hk := hK.out _ _ trivial hS rfl; revert hk; go_simp)
        case io10zx5 =>
          intro k1 w1 hk0 hk1 hb1 hS hd KK hK
          have d2 : x2 = .bool true := hd 2 (by kernel_rfl)
          clear hd
          subst d2
          simp only [Act.put, List.setIfInBounds_toArray, List.set_cons_zero, List.set_cons_succ] at hK
          go_simp
          first | exact hK.out _ _ trivial hS rfl | (have hk := hK.out _ _ trivial hS rfl; revert hk; go_simp)
        case io10zx6 =>
          intro k1 w1 hk0 hk1 hb1 hS hd KK hK
          have d2 : x2 = .bool true := hd 2 (by kernel_rfl)
          have d4 : x4 = undef := hd 4 (by kernel_rfl)
          have d5 : x5 = undef := hd 5 (by kernel_rfl)
          clear hd
          subst d2
          subst d4
          subst d5
          simp only [Act.put, List.setIfInBounds_toArray, List.set_cons_zero, List.set_cons_succ] at hK
          go_simp
          first | exact hK.out _ _ trivial hS rfl | (have hk := hK.out _ _ trivial hS rfl; revert hk; go_simp)
        case io10zx7 =>
          intro k1 w1 hk0 hk1 hb1 hS hd KK hK
          have d2 : x2 = .bool true := hd 2 (by kernel_rfl)
          have d6 : x6 = undef := hd 6 (by kernel_rfl)
          clear hd
          subst d2
          subst d6
          simp only [Act.put, List.setIfInBounds_toArray, List.set_cons_zero, List.set_cons_succ] at hK
          go_simp
          first | exact hK.out _ _ trivial hS rfl | (have hk := hK.out _ _ trivial hS rfl; revert hk; go_simp)
        case io10zx8 =>
          intro k1 w1 hk0 hk1 hb1 hS hd KK hK
          have d2 : x2 = .bool true := hd 2 (by kernel_rfl)
          clear hd
          subst d2
          simp only [Act.put, List.setIfInBounds_toArray, List.set_cons_zero, List.set_cons_succ] at hK
          go_simp
          first | exact hK.out _ _ trivial hS rfl | (have hk := hK.out _ _ trivial hS rfl; revert hk; go_simp)
        case io10zx9 =>
          intro k1 w1 hk0 hk1 hb1 hS hd KK hK
          have d2 : x2 = .bool true := hd 2 (by kernel_rfl)
          have d8 : x8 = undef := hd 8 (by kernel_rfl)
          clear hd
          subst d2
          subst d8
          simp only [Act.put, List.setIfInBounds_toArray, List.set_cons_zero, List.set_cons_succ] at hK
          go_simp
          first | exact hK.out _ _ trivial hS rfl | (have hk := hK.out _ _ trivial hS rfl; revert hk; go_simp)
        case io10zx10 =>
          intro k1 w1 hk0 hk1 hb1 hS hd KK hK
          have d2 : x2 = .bool true := hd 2 (by kernel_rfl)
          clear hd
          subst d2
          simp only [Act.put, List.setIfInBounds_toArray, List.set_cons_zero, List.set_cons_succ] at hK
          go_simp
          first | exact hK.out _ _ trivial hS rfl | (have hk := hK.out _ _ trivial hS rfl; revert hk; go_simp)
        case io10zx11 =>
          intro k1 w1 hk0 hk1 hb1 hS hd KK hK
          have d2 : x2 = .bool true := hd 2 (by kernel_rfl)
          have d9 : x9 = undef := hd 9 (by kernel_rfl)
          have d10 : x10 = undef := hd 10 (by kernel_rfl)
          clear hd
          subst d2
          subst d9
          subst d10
          simp only [Act.put, List.setIfInBounds_toArray, List.set_cons_zero, List.set_cons_succ] at hK
          go_simp
          first | exact hK.out _ _ trivial hS rfl | (have hk := hK.out _ _ trivial hS rfl; revert hk; go_simp)
        case io10zx12 =>
          intro k1 w1 hk0 hk1 hb1 hS hd KK hK
          have d2 : x2 = .bool true := hd 2 (by kernel_rfl)
          have d11 : x11 = undef := hd 11 (by kernel_rfl)
          clear hd
          subst d2
          subst d11
          simp only [Act.put, List.setIfInBounds_toArray, List.set_cons_zero, List.set_cons_succ] at hK
          go_simp
          first | exact hK.out _ _ trivial hS rfl | (have hk := hK.out _ _ trivial hS rfl; revert hk; go_simp)
        case io10zx13 =>
          intro k1 w1 hk0 hk1 hb1 hS hd KK hK
          have d2 : x2 = .bool true := hd 2 (by kernel_rfl)
          have d7 : x7 = undef := hd 7 (by kernel_rfl)
          have d12 : x12 = undef := hd 12 (by kernel_rfl)
          clear hd
          subst d2
          subst d7
          subst d12
          simp only [Act.put, List.setIfInBounds_toArray, List.set_cons_zero, List.set_cons_succ] at hK
          go_simp
          first | exact hK.out _ _ trivial hS rfl | (have hk := hK.out _ _ trivial hS rfl; revert hk; go_simp)
        case io10zx14 =>
          intro k1 w1 hk0 hk1 hb1 hS hd KK hK
          have d2 : x2 = .bool true := hd 2 (by kernel_rfl)
          have d13 : x13 = undef := hd 13 (by kernel_rfl)
          clear hd
          subst d2
          subst d13
          simp only [Act.put, List.setIfInBounds_toArray, List.set_cons_zero, List.set_cons_succ] at hK
          go_simp
          first | exact hK.out _ _ trivial hS rfl | (have hk := hK.out _ _ trivial hS rfl; revert hk; go_simp)
        case iend10z =>
          intro w1 hb1 hS hR
          have d0 : x0 = .int .i64 hh := hR 0 (by decide)
          have d1 : x1 = .bool true := hR 1 (by decide)
          have d2 : x2 = .bool true := hR 2 (by decide)
          have d3 : x3 = undef := hR 3 (by decide)
          have d4 : x4 = undef := hR 4 (by decide)
          have d5 : x5 = undef := hR 5 (by decide)
          have d6 : x6 = undef := hR 6 (by decide)
          have d7 : x7 = undef := hR 7 (by decide)
          have d8 : x8 = undef := hR 8 (by decide)
          have d9 : x9 = undef := hR 9 (by decide)
          have d10 : x10 = undef := hR 10 (by decide)
          have d11 : x11 = undef := hR 11 (by decide)
          have d12 : x12 = undef := hR 12 (by decide)
          have d13 : x13 = undef := hR 13 (by decide)
          have d14 : x14 = .bool true := hR 14 (by decide)
          clear hR
          subst d0
          subst d1
          subst d2
          subst d3
          subst d4
          subst d5
          subst d6
          subst d7
          subst d8
          subst d9
          subst d10
          subst d11
          subst d12
          subst d13
          subst d14
          try simp only [putAll, Act.put, List.setIfInBounds_toArray, List.set_cons_zero, List.set_cons_succ]
          have F13 := Lib.hid hS
          clear hS hb1 F12
          obtain ⟨V3, rfl⟩ : ∃ x : World, x = w1 := ⟨_, rfl⟩
          go_upto_region 11 with fail
          have hcnd : hh = 0 ∨ tk < y := .inl hc0
          have hsg := (HST2.out g).2.1 rfl (by rw [HTK.out]; exact hcnd)
          have HF1 := Lib.hid (fillC y hgn hsg.1 (fun i hi => ((HST2.out i).1 (fun h => hi h.symm)).1))
          have HF2 := Lib.hid (fillC hh hgn hsg.2 (fun i hi => ((HST2.out i).1 (fun h => hi h.symm)).2))
          clear hsg hcnd
          refine wp_region_inv (w := V3) 10 (fun _ _ => True) (fun k9 W => (k9 = 0 → Fr w.heap.size w W [(w.heap.size, [.slice a xs.length c, .slice (some ⟨gy, oy, none⟩) ys.length d]), (w.heap.size + 1, [.slice none 0 0, .slice none 0 0]), (X2, [.int .i64 (ax : Int)]), (X8, [.slice as_ S.length cs_, .slice (some ⟨gd, 0, none⟩) N N])] [(.i64, a, xs), (.i64, (some ⟨gy, oy, none⟩), ys)] [⟨3, .slice as_ S.length cs_, S.length, S.map (Value.int .i64)⟩, ⟨2, .slice (some ⟨gd, 0, none⟩) N N, N, ((List.range N).map (TT k)).map (Value.int .i64)⟩, ⟨3, .slice (some ⟨gp, 0, none⟩) N N, N, ((List.range N).map (PP k)).map (Value.int .i64)⟩] []) ∧ (k9 = 1 → Fr w.heap.size w W [(w.heap.size, [.slice a xs.length c, .slice (some ⟨gy, oy, none⟩) ys.length d]), (w.heap.size + 1, [.slice none 0 0, .slice none 0 0]), (X2, [.int .i64 (ax : Int)]), (X8, [.slice as_ S.length cs_, .slice (some ⟨gd, 0, none⟩) N N])] [(.i64, a, xs), (.i64, (some ⟨gy, oy, none⟩), ys)] [⟨3, .slice as_ S.length cs_, S.length, S.map (Value.int .i64)⟩, ⟨2, .slice (some ⟨gd, 0, none⟩) N N, N, ((List.range N).map (TT (k + 1))).map (Value.int .i64)⟩, ⟨3, .slice (some ⟨gp, 0, none⟩) N N, N, ((List.range N).map (PP k)).map (Value.int .i64)⟩] [])) [9] [(fun u _ => u = .pointer (some ⟨X8, 1, none⟩)), (fun u _ => u = .slice (some ⟨gd, 0, none⟩) N N), (fun u _ => u = .int .i64 (g : Int)), (fun u _ => u = .pointer (some ⟨w.heap.size, 1, none⟩)), (fun u _ => u = .slice (some ⟨gy, oy, none⟩) ys.length d), (fun u _ => u = .int .i64 (k : Int)), (fun u _ => u = .pointer (some ⟨gy, oy + k, none⟩)), (fun u _ => u = .int .i64 y), (fun u _ => u = .pointer (some ⟨gd, g, none⟩)), (fun _ _ => True)] [some 62, some 63, some 64, some 65, some 66, some 67, some 68, some 69, some 70, none] (by kernel_rfl) (by kernel_rfl) rfl (by kernel_rfl) (by kernel_rfl) (by decide) (by decide) (fun _ _ => trivial) trivial ⟨fun _ => F13.out.drew, fun h => absurd h (by decide)⟩ (BorneAll.at (.cons (borne_eq _) (.cons (borne_eq _) (.cons (borne_eq _) (.cons (borne_eq _) (.cons (borne_eq _) (.cons (borne_eq _) (.cons (borne_eq _) (.cons (borne_eq _) (.cons (borne_eq _) (.cons (fun _ _ _ _ _ => trivial) .nil))))))))))) (fun vs b hvl hvb => ?_)
          obtain ⟨x0, x1, x2, x3, x4, x5, x6, x7, x8, x9, rfl⟩ : ∃ x0 x1 x2 x3 x4 x5 x6 x7 x8 x9, vs = [x0, x1, x2, x3, x4, x5, x6, x7, x8, x9] := lst10 hvl
          clear hvl
          simp only [putAll, Act.put, List.setIfInBounds_toArray, List.set_cons_zero, List.set_cons_succ] at hvb
          subst hvb
          refine ⟨(.snoc (.snoc (.snoc (.snoc (.snoc (.snoc (.snoc (.snoc (.snoc (.snoc .zero (InvOb.intro (d := (some 62)) (r := fun u _ => u = .pointer (some ⟨X8, 1, none⟩)) 0 0 rfl rfl rfl (by kernel_rfl) (by kernel_rfl) rfl ?io11zx0)) (InvOb.intro (d := (some 63)) (r := fun u _ => u = .slice (some ⟨gd, 0, none⟩) N N) 0 0 rfl rfl rfl (by kernel_rfl) (by kernel_rfl) rfl ?io11zx1)) (InvOb.intro (d := (some 64)) (r := fun u _ => u = .int .i64 (g : Int)) 0 0 rfl rfl rfl (by kernel_rfl) (by kernel_rfl) rfl ?io11zx2)) (InvOb.intro (d := (some 65)) (r := fun u _ => u = .pointer (some ⟨w.heap.size, 1, none⟩)) 0 0 rfl rfl rfl (by kernel_rfl) (by kernel_rfl) rfl ?io11zx3)) (InvOb.intro (d := (some 66)) (r := fun u _ => u = .slice (some ⟨gy, oy, none⟩) ys.length d) 0 0 rfl rfl rfl (by kernel_rfl) (by kernel_rfl) rfl ?io11zx4)) (InvOb.intro (d := (some 67)) (r := fun u _ => u = .int .i64 (k : Int)) 0 0 rfl rfl rfl (by kernel_rfl) (by kernel_rfl) rfl ?io11zx5)) (InvOb.intro (d := (some 68)) (r := fun u _ => u = .pointer (some ⟨gy, oy + k, none⟩)) 0 0 rfl rfl rfl (by kernel_rfl) (by kernel_rfl) rfl ?io11zx6)) (InvOb.intro (d := (some 69)) (r := fun u _ => u = .int .i64 y) 0 0 rfl rfl rfl (by kernel_rfl) (by kernel_rfl) rfl ?io11zx7)) (InvOb.intro (d := (some 70)) (r := fun u _ => u = .pointer (some ⟨gd, g, none⟩)) 0 0 rfl rfl rfl (by kernel_rfl) (by kernel_rfl) rfl ?io11zx8)) (InvOb.put (d := none) (r := fun _ _ => True) 0 rfl rfl rfl (by kernel_rfl) (by kernel_rfl) rfl ?io11zx9)), ?iend11z⟩
          case io11zx0 =>
            intro k1 w1 hk0 hk1 hb1 hS hd KK hK
            clear hd
            simp only [Act.put, List.setIfInBounds_toArray, List.set_cons_zero, List.set_cons_succ] at hK
            go_simp
            first | exact hK.out _ _ trivial hS rfl | (have hk := hK.out _ _ trivial hS rfl; revert hk; go_simp)
          case io11zx1 =>
            intro k1 w1 hk0 hk1 hb1 hS hd KK hK
            have d0 : x0 = .pointer (some ⟨X8, 1, none⟩) := hd 0 (by kernel_rfl)
            clear hd
            subst d0
            have hF := hS.1 (by omega)
            have k1 := hF.c 3 1 rfl rfl
            simp only [Act.put, List.setIfInBounds_toArray, List.set_cons_zero, List.set_cons_succ] at hK
            go_simp
            first | exact hK.out _ _ trivial hS rfl | (have hk := hK.out _ _ trivial hS rfl; revert hk; go_simp)
          case io11zx2 =>
            intro k1 w1 hk0 hk1 hb1 hS hd KK hK
            clear hd
            simp only [Act.put, List.setIfInBounds_toArray, List.set_cons_zero, List.set_cons_succ] at hK
            go_simp
            first | exact hK.out _ _ trivial hS rfl | (have hk := hK.out _ _ trivial hS rfl; revert hk; go_simp)
          case io11zx3 =>
            intro k1 w1 hk0 hk1 hb1 hS hd KK hK
            clear hd
            simp only [Act.put, List.setIfInBounds_toArray, List.set_cons_zero, List.set_cons_succ] at hK
            go_simp
            first | exact hK.out _ _ trivial hS rfl | (have hk := hK.out _ _ trivial hS rfl; revert hk; go_simp)
          case io11zx4 =>
            intro k1 w1 hk0 hk1 hb1 hS hd KK hK
            have d3 : x3 = .pointer (some ⟨w.heap.size, 1, none⟩) := hd 3 (by kernel_rfl)
            clear hd
            subst d3
            have hF := hS.1 (by omega)
            have k1 := hF.c 0 1 rfl rfl
            simp only [Act.put, List.setIfInBounds_toArray, List.set_cons_zero, List.set_cons_succ] at hK
            go_simp
            first | exact hK.out _ _ trivial hS rfl | (have hk := hK.out _ _ trivial hS rfl; revert hk; go_simp)
          case io11zx5 =>
            intro k1 w1 hk0 hk1 hb1 hS hd KK hK
            clear hd
            simp only [Act.put, List.setIfInBounds_toArray, List.set_cons_zero, List.set_cons_succ] at hK
            go_simp
            first | exact hK.out _ _ trivial hS rfl | (have hk := hK.out _ _ trivial hS rfl; revert hk; go_simp)
          case io11zx6 =>
            intro k1 w1 hk0 hk1 hb1 hS hd KK hK
            have d4 : x4 = .slice (some ⟨gy, oy, none⟩) ys.length d := hd 4 (by kernel_rfl)
            have d5 : x5 = .int .i64 (k : Int) := hd 5 (by kernel_rfl)
            clear hd
            subst d4
            subst d5
            simp only [Act.put, List.setIfInBounds_toArray, List.set_cons_zero, List.set_cons_succ] at hK
            go_simp
            first | exact hK.out _ _ trivial hS rfl | (have hk := hK.out _ _ trivial hS rfl; revert hk; go_simp)
          case io11zx7 =>
            intro k1 w1 hk0 hk1 hb1 hS hd KK hK
            have d6 : x6 = .pointer (some ⟨gy, oy + k, none⟩) := hd 6 (by kernel_rfl)
            clear hd
            subst d6
            have hF := hS.1 (by omega)
            obtain ⟨b9, o9, he, hl9, hcx⟩ := (hF.l 1 rfl).cell k hlk
            cases he
            rw [HY.out] at hcx
            simp only [Act.put, List.setIfInBounds_toArray, List.set_cons_zero, List.set_cons_succ] at hK
            go_simp
            first | exact hK.out _ _ trivial hS rfl | (have hk := hK.out _ _ trivial hS rfl; revert hk; go_simp)
          case io11zx8 =>
            intro k1 w1 hk0 hk1 hb1 hS hd KK hK
            have d0 : x0 = .pointer (some ⟨X8, 1, none⟩) := hd 0 (by kernel_rfl)
            have d1 : x1 = .slice (some ⟨gd, 0, none⟩) N N := hd 1 (by kernel_rfl)
            have d2 : x2 = .int .i64 (g : Int) := hd 2 (by kernel_rfl)
            have d3 : x3 = .pointer (some ⟨w.heap.size, 1, none⟩) := hd 3 (by kernel_rfl)
            have d4 : x4 = .slice (some ⟨gy, oy, none⟩) ys.length d := hd 4 (by kernel_rfl)
            have d5 : x5 = .int .i64 (k : Int) := hd 5 (by kernel_rfl)
            have d6 : x6 = .pointer (some ⟨gy, oy + k, none⟩) := hd 6 (by kernel_rfl)
            have d7 : x7 = .int .i64 y := hd 7 (by kernel_rfl)
            clear hd
            subst d0
            subst d1
            subst d2
            subst d3
            subst d4
            subst d5
            subst d6
            subst d7
            simp only [Act.put, List.setIfInBounds_toArray, List.set_cons_zero, List.set_cons_succ] at hK
            go_simp
            first | exact hK.out _ _ trivial hS rfl | (have hk := hK.out _ _ trivial hS rfl; revert hk; go_simp)
          case io11zx9 =>
            intro w1 hb1 hS hd KK hK
            have d0 : x0 = .pointer (some ⟨X8, 1, none⟩) := hd 0 (by kernel_rfl)
            have d1 : x1 = .slice (some ⟨gd, 0, none⟩) N N := hd 1 (by kernel_rfl)
            have d2 : x2 = .int .i64 (g : Int) := hd 2 (by kernel_rfl)
            have d3 : x3 = .pointer (some ⟨w.heap.size, 1, none⟩) := hd 3 (by kernel_rfl)
            have d4 : x4 = .slice (some ⟨gy, oy, none⟩) ys.length d := hd 4 (by kernel_rfl)
            have d5 : x5 = .int .i64 (k : Int) := hd 5 (by kernel_rfl)
            have d6 : x6 = .pointer (some ⟨gy, oy + k, none⟩) := hd 6 (by kernel_rfl)
            have d7 : x7 = .int .i64 y := hd 7 (by kernel_rfl)
            have d8 : x8 = .pointer (some ⟨gd, g, none⟩) := hd 8 (by kernel_rfl)
            clear hd
            subst d0
            subst d1
            subst d2
            subst d3
            subst d4
            subst d5
            subst d6
            subst d7
            subst d8
            have hF := hS.1 rfl
            obtain ⟨kc, kf⟩ := hF.rc 1 g rfl (rangeV (TT k) hgn)
            simp only [Act.put, List.setIfInBounds_toArray, List.set_cons_zero, List.set_cons_succ] at hK
            go_simp
            first | exact hK.out undef _ trivial ⟨fun h => absurd h (by decide), fun _ => by have hp := hF.put 1 g rfl (.int .i64 y); simp only [List.set_cons_zero, List.set_cons_succ] at hp; rw [HF1.out] at hp; exact hp⟩ trivial | (have hk := hK.out undef _ trivial ⟨fun h => absurd h (by decide), fun _ => by have hp := hF.put 1 g rfl (.int .i64 y); simp only [List.set_cons_zero, List.set_cons_succ] at hp; rw [HF1.out] at hp; exact hp⟩ trivial; revert hk; go_simp)
          case iend11z =>
            intro w1 hb1 hS hR
            have d0 : x0 = .pointer (some ⟨X8, 1, none⟩) := hR 0 (by decide)
            have d1 : x1 = .slice (some ⟨gd, 0, none⟩) N N := hR 1 (by decide)
            have d2 : x2 = .int .i64 (g : Int) := hR 2 (by decide)
            have d3 : x3 = .pointer (some ⟨w.heap.size, 1, none⟩) := hR 3 (by decide)
            have d4 : x4 = .slice (some ⟨gy, oy, none⟩) ys.length d := hR 4 (by decide)
            have d5 : x5 = .int .i64 (k : Int) := hR 5 (by decide)
            have d6 : x6 = .pointer (some ⟨gy, oy + k, none⟩) := hR 6 (by decide)
            have d7 : x7 = .int .i64 y := hR 7 (by decide)
            have d8 : x8 = .pointer (some ⟨gd, g, none⟩) := hR 8 (by decide)
            clear hR
            subst d0
            subst d1
            subst d2
            subst d3
            subst d4
            subst d5
            subst d6
            subst d7
            subst d8
            try simp only [putAll, Act.put, List.setIfInBounds_toArray, List.set_cons_zero, List.set_cons_succ]
            have F14 := Lib.hid (hS.2 rfl)
            clear hS hb1 F13
            obtain ⟨V4, rfl⟩ : ∃ x : World, x = w1 := ⟨_, rfl⟩
            obtain ⟨kc, kf⟩ := F14.out.rc 2 g rfl (rangeV (PP k) hgn)
            go_wp2_with fail
            have hp := F14.out.put 2 g rfl (.int .i64 hh)
            simp only [List.set_cons_zero, List.set_cons_succ] at hp
            rw [HF2.out] at hp
            have F15 := Lib.hid hp
            clear hp kc kf F14
            go_roundw
            case rel => exact ⟨k + 1, by omega, by go_num, Lib.hid (by have h15 := F15.out; rw [hc0] at h15; exact h15)⟩
            case measure => simp [intOf]; omega
      · skip
        have hd0 : (hh == 0) = false := by simpa using hc0
        refine wp_region_inv (w := V2) 15 (fun _ _ => True) (fun _ W => Fr w.heap.size w W [(w.heap.size, [.slice a xs.length c, .slice (some ⟨gy, oy, none⟩) ys.length d]), (w.heap.size + 1, [.slice none 0 0, .slice none 0 0]), (X2, [.int .i64 (ax : Int)]), (X8, [.slice as_ S.length cs_, .slice (some ⟨gd, 0, none⟩) N N])] [(.i64, a, xs), (.i64, (some ⟨gy, oy, none⟩), ys)] [⟨3, .slice as_ S.length cs_, S.length, S.map (Value.int .i64)⟩, ⟨2, .slice (some ⟨gd, 0, none⟩) N N, N, ((List.range N).map (TT k)).map (Value.int .i64)⟩, ⟨3, .slice (some ⟨gp, 0, none⟩) N N, N, ((List.range N).map (PP k)).map (Value.int .i64)⟩] []) [] [(fun u _ => u = .int .i64 hh), (fun u _ => u = .bool false), (fun u _ => u = .bool false), (fun u _ => u = .pointer (some ⟨w.heap.size, 1, none⟩)), (fun u _ => u = .slice (some ⟨gy, oy, none⟩) ys.length d), (fun u _ => u = .int .i64 (k : Int)), (fun u _ => u = .pointer (some ⟨gy, oy + k, none⟩)), (fun u _ => u = .int .i64 y), (fun u _ => u = .pointer (some ⟨X8, 1, none⟩)), (fun u _ => u = .slice (some ⟨gd, 0, none⟩) N N), (fun u _ => u = .int .i64 (g : Int)), (fun u _ => u = .pointer (some ⟨gd, g, none⟩)), (fun u _ => u = .int .i64 tk), (fun u _ => u = .bool (decide (tk < y))), (fun u _ => u = .bool (decide (tk < y)))] [some 47, some 48, some 49, some 50, some 51, some 52, some 53, some 54, some 55, some 56, some 57, some 58, some 59, some 60, some 61] (by kernel_rfl) (by kernel_rfl) rfl (by kernel_rfl) (by kernel_rfl) (by decide) (by decide) (fun _ _ => trivial) trivial F12.out.drew (BorneAll.at (.cons (borne_eq _) (.cons (borne_eq _) (.cons (borne_eq _) (.cons (borne_eq _) (.cons (borne_eq _) (.cons (borne_eq _) (.cons (borne_eq _) (.cons (borne_eq _) (.cons (borne_eq _) (.cons (borne_eq _) (.cons (borne_eq _) (.cons (borne_eq _) (.cons (borne_eq _) (.cons (borne_eq _) (.cons (borne_eq _) .nil)))))))))))))))) (fun vs b hvl hvb => ?_)
        obtain ⟨x0, x1, x2, x3, x4, x5, x6, x7, x8, x9, x10, x11, x12, x13, x14, rfl⟩ : ∃ x0 x1 x2 x3 x4 x5 x6 x7 x8 x9 x10 x11 x12 x13 x14, vs = [x0, x1, x2, x3, x4, x5, x6, x7, x8, x9, x10, x11, x12, x13, x14] := lst15 hvl
        clear hvl
        simp only [putAll, Act.put, List.setIfInBounds_toArray, List.set_cons_zero, List.set_cons_succ] at hvb
        subst hvb
        refine ⟨(.snoc (.snoc (.snoc (.snoc (.snoc (.snoc (.snoc (.snoc (.snoc (.snoc (.snoc (.snoc (.snoc (.snoc (.snoc .zero (InvOb.intro (d := (some 47)) (r := fun u _ => u = .int .i64 hh) 0 0 rfl rfl rfl (by kernel_rfl) (by kernel_rfl) rfl ?io10nx0)) (InvOb.intro (d := (some 48)) (r := fun u _ => u = .bool false) 0 0 rfl rfl rfl (by kernel_rfl) (by kernel_rfl) rfl ?io10nx1)) (InvOb.intro (d := (some 49)) (r := fun u _ => u = .bool false) 0 0 rfl rfl rfl (by kernel_rfl) (by kernel_rfl) rfl ?io10nx2)) (InvOb.intro (d := (some 50)) (r := fun u _ => u = .pointer (some ⟨w.heap.size, 1, none⟩)) 0 0 rfl rfl rfl (by kernel_rfl) (by kernel_rfl) rfl ?io10nx3)) (InvOb.intro (d := (some 51)) (r := fun u _ => u = .slice (some ⟨gy, oy, none⟩) ys.length d) 0 0 rfl rfl rfl (by kernel_rfl) (by kernel_rfl) rfl ?io10nx4)) (InvOb.intro (d := (some 52)) (r := fun u _ => u = .int .i64 (k : Int)) 0 0 rfl rfl rfl (by kernel_rfl) (by kernel_rfl) rfl ?io10nx5)) (InvOb.intro (d := (some 53)) (r := fun u _ => u = .pointer (some ⟨gy, oy + k, none⟩)) 0 0 rfl rfl rfl (by kernel_rfl) (by kernel_rfl) rfl ?io10nx6)) (InvOb.intro (d := (some 54)) (r := fun u _ => u = .int .i64 y) 0 0 rfl rfl rfl (by kernel_rfl) (by kernel_rfl) rfl ?io10nx7)) (InvOb.intro (d := (some 55)) (r := fun u _ => u = .pointer (some ⟨X8, 1, none⟩)) 0 0 rfl rfl rfl (by kernel_rfl) (by kernel_rfl) rfl ?io10nx8)) (InvOb.intro (d := (some 56)) (r := fun u _ => u = .slice (some ⟨gd, 0, none⟩) N N) 0 0 rfl rfl rfl (by kernel_rfl) (by kernel_rfl) rfl ?io10nx9)) (InvOb.intro (d := (some 57)) (r := fun u _ => u = .int .i64 (g : Int)) 0 0 rfl rfl rfl (by kernel_rfl) (by kernel_rfl) rfl ?io10nx10)) (InvOb.intro (d := (some 58)) (r := fun u _ => u = .pointer (some ⟨gd, g, none⟩)) 0 0 rfl rfl rfl (by kernel_rfl) (by kernel_rfl) rfl ?io10nx11)) (InvOb.intro (d := (some 59)) (r := fun u _ => u = .int .i64 tk) 0 0 rfl rfl rfl (by kernel_rfl) (by kernel_rfl) rfl ?io10nx12)) (InvOb.intro (d := (some 60)) (r := fun u _ => u = .bool (decide (tk < y))) 0 0 rfl rfl rfl (by kernel_rfl) (by kernel_rfl) rfl ?io10nx13)) (InvOb.intro (d := (some 61)) (r := fun u _ => u = .bool (decide (tk < y))) 0 0 rfl rfl rfl (by kernel_rfl) (by kernel_rfl) rfl ?io10nx14)), ?iend10n⟩
        case io10nx0 =>
          intro k1 w1 hk0 hk1 hb1 hS hd KK hK
          clear hd
          simp only [Act.put, List.setIfInBounds_toArray, List.set_cons_zero, List.set_cons_succ] at hK
          go_simp
          first | exact hK.out _ _ trivial hS rfl | (have hk := hK.out _ _ trivial hS rfl; revert hk; go_simp)
        case io10nx1 =>
          intro k1 w1 hk0 hk1 hb1 hS hd KK hK
          have d0 : x0 = .int .i64 hh := hd 0 (by kernel_rfl)
          clear hd
          subst d0
          simp only [Act.put, List.setIfInBounds_toArray, List.set_cons_zero, List.set_cons_succ] at hK
          go_simp
          first | exact hK.out _ _ trivial hS rfl | (have hk := hK.out _ _ trivial hS rfl; revert hk; go_simp)
        case io10nx2 =>
          intro k1 w1 hk0 hk1 hb1 hS hd KK hK
          have d1 : x1 = .bool false := hd 1 (by kernel_rfl)
          clear hd
          subst d1
          simp only [Act.put, List.setIfInBounds_toArray, List.set_cons_zero, List.set_cons_succ] at hK
          go_simp
          first | exact hK.out _ _ trivial hS rfl | (have hk := hK.out _ _ trivial hS rfl; revert hk; go_simp)
        case io10nx3 =>
          intro k1 w1 hk0 hk1 hb1 hS hd KK hK
          have d2 : x2 = .bool false := hd 2 (by kernel_rfl)
          clear hd
          subst d2
          simp only [Act.put, List.setIfInBounds_toArray, List.set_cons_zero, List.set_cons_succ] at hK
          go_simp
          first | exact hK.out _ _ trivial hS rfl | (have hk := hK.out _ _ trivial hS rfl; revert hk; go_simp)
        case io10nx4 =>
          intro k1 w1 hk0 hk1 hb1 hS hd KK hK
          have d2 : x2 = .bool false := hd 2 (by kernel_rfl)
          have d3 : x3 = .pointer (some ⟨w.heap.size, 1, none⟩) := hd 3 (by kernel_rfl)
          clear hd
          subst d2
          subst d3
          have k1 := hS.c 0 1 rfl rfl
          simp only [Act.put, List.setIfInBounds_toArray, List.set_cons_zero, List.set_cons_succ] at hK
          go_simp
          first | exact hK.out _ _ trivial hS rfl | (have hk := hK.out _ _ trivial hS rfl; revert hk; go_simp)
        case io10nx5 =>
          intro k1 w1 hk0 hk1 hb1 hS hd KK hK
          have d2 : x2 = .bool false := hd 2 (by kernel_rfl)
          clear hd
          subst d2
          simp only [Act.put, List.setIfInBounds_toArray, List.set_cons_zero, List.set_cons_succ] at hK
          go_simp
          first | exact hK.out _ _ trivial hS rfl | (have hk := hK.out _ _ trivial hS rfl; revert hk; go_simp)
        case io10nx6 =>
          intro k1 w1 hk0 hk1 hb1 hS hd KK hK
          have d2 : x2 = .bool false := hd 2 (by kernel_rfl)
          have d4 : x4 = .slice (some ⟨gy, oy, none⟩) ys.length d := hd 4 (by kernel_rfl)
          have d5 : x5 = .int .i64 (k : Int) := hd 5 (by kernel_rfl)
          clear hd
          subst d2
          subst d4
          subst d5
          simp only [Act.put, List.setIfInBounds_toArray, List.set_cons_zero, List.set_cons_succ] at hK
          go_simp
          first | exact hK.out _ _ trivial hS rfl | (have hk := hK.out _ _ trivial hS rfl; revert hk; go_simp)
        case io10nx7 =>
          intro k1 w1 hk0 hk1 hb1 hS hd KK hK
          have d2 : x2 = .bool false := hd 2 (by kernel_rfl)
          have d6 : x6 = .pointer (some ⟨gy, oy + k, none⟩) := hd 6 (by kernel_rfl)
          clear hd
          subst d2
          subst d6
          obtain ⟨b9, o9, he, hl9, hcx⟩ := (hS.l 1 rfl).cell k hlk
          cases he
          rw [HY.out] at hcx
          simp only [Act.put, List.setIfInBounds_toArray, List.set_cons_zero, List.set_cons_succ] at hK
          go_simp
          first | exact hK.out _ _ trivial hS rfl | (have hk := hK.out _ _ trivial hS rfl; revert hk; go_simp)
        case io10nx8 =>
          intro k1 w1 hk0 hk1 hb1 hS hd KK hK
          have d2 : x2 = .bool false := hd 2 (by kernel_rfl)
          clear hd
          subst d2
          simp only [Act.put, List.setIfInBounds_toArray, List.set_cons_zero, List.set_cons_succ] at hK
          go_simp
          first | exact hK.out _ _ trivial hS rfl | (have hk := hK.out _ _ trivial hS rfl; revert hk; go_simp)
        case io10nx9 =>
          intro k1 w1 hk0 hk1 hb1 hS hd KK hK
          have d2 : x2 = .bool false := hd 2 (by kernel_rfl)
          have d8 : x8 = .pointer (some ⟨X8, 1, none⟩) := hd 8 (by kernel_rfl)
          clear hd
          subst d2
          subst d8
          have k1 := hS.c 3 1 rfl rfl
          simp only [Act.put, List.setIfInBounds_toArray, List.set_cons_zero, List.set_cons_succ] at hK
          go_simp
          first | exact hK.out _ _ trivial hS rfl | (have hk := hK.out _ _ trivial hS rfl; revert hk; go_simp)
        case io10nx10 =>
          intro k1 w1 hk0 hk1 hb1 hS hd KK hK
          have d2 : x2 = .bool false := hd 2 (by kernel_rfl)
          clear hd
          subst d2
          simp only [Act.put, List.setIfInBounds_toArray, List.set_cons_zero, List.set_cons_succ] at hK
          go_simp
          first | exact hK.out _ _ trivial hS rfl | (have hk := hK.out _ _ trivial hS rfl; revert hk; go_simp)
        case io10nx11 =>
          intro k1 w1 hk0 hk1 hb1 hS hd KK hK
          have d2 : x2 = .bool false := hd 2 (by kernel_rfl)
          have d9 : x9 = .slice (some ⟨gd, 0, none⟩) N N := hd 9 (by kernel_rfl)
          have d10 : x10 = .int .i64 (g : Int) := hd 10 (by kernel_rfl)
          clear hd
          subst d2
          subst d9
          subst d10
          simp only [Act.put, List.setIfInBounds_toArray, List.set_cons_zero, List.set_cons_succ] at hK
          go_simp
          first | exact hK.out _ _ trivial hS rfl | (have hk := hK.out _ _ trivial hS rfl; revert hk; go_simp)
        case io10nx12 =>
          intro k1 w1 hk0 hk1 hb1 hS hd KK hK
          have d2 : x2 = .bool false := hd 2 (by kernel_rfl)
          have d11 : x11 = .pointer (some ⟨gd, g, none⟩) := hd 11 (by kernel_rfl)
          clear hd
          subst d2
          subst d11
          have hcx := (hS.rc 1 g rfl (rangeV (TT k) hgn)).1
          rw [HTK.out] at hcx
          simp only [Act.put, List.setIfInBounds_toArray, List.set_cons_zero, List.set_cons_succ] at hK
          go_simp
          first | exact hK.out _ _ trivial hS rfl | (have hk := hK.out _ _ trivial hS rfl; revert hk; go_simp)
        case io10nx13 =>
          intro k1 w1 hk0 hk1 hb1 hS hd KK hK
          have d2 : x2 = .bool false := hd 2 (by kernel_rfl)
          have d7 : x7 = .int .i64 y := hd 7 (by kernel_rfl)
          have d12 : x12 = .int .i64 tk := hd 12 (by kernel_rfl)
          clear hd
          subst d2
          subst d7
          subst d12
          simp only [Act.put, List.setIfInBounds_toArray, List.set_cons_zero, List.set_cons_succ] at hK
          go_simp
          first | exact hK.out _ _ trivial hS rfl | (have hk := hK.out _ _ trivial hS rfl; revert hk; go_simp)
        case io10nx14 =>
          intro k1 w1 hk0 hk1 hb1 hS hd KK hK
          have d2 : x2 = .bool false := hd 2 (by kernel_rfl)
          have d13 : x13 = .bool (decide (tk < y)) := hd 13 (by kernel_rfl)
          clear hd
          subst d2
          subst d13
          simp only [Act.put, List.setIfInBounds_toArray, List.set_cons_zero, List.set_cons_succ] at hK
          go_simp
          first | exact hK.out _ _ trivial hS rfl | (have hk := hK.out _ _ trivial hS rfl; revert hk; go_simp)
        case iend10n =>
          intro w1 hb1 hS hR
          have d0 : x0 = .int .i64 hh := hR 0 (by decide)
          have d1 : x1 = .bool false := hR 1 (by decide)
          have d2 : x2 = .bool false := hR 2 (by decide)
          have d3 : x3 = .pointer (some ⟨w.heap.size, 1, none⟩) := hR 3 (by decide)
          have d4 : x4 = .slice (some ⟨gy, oy, none⟩) ys.length d := hR 4 (by decide)
          have d5 : x5 = .int .i64 (k : Int) := hR 5 (by decide)
          have d6 : x6 = .pointer (some ⟨gy, oy + k, none⟩) := hR 6 (by decide)
          have d7 : x7 = .int .i64 y := hR 7 (by decide)
          have d8 : x8 = .pointer (some ⟨X8, 1, none⟩) := hR 8 (by decide)
          have d9 : x9 = .slice (some ⟨gd, 0, none⟩) N N := hR 9 (by decide)
          have d10 : x10 = .int .i64 (g : Int) := hR 10 (by decide)
          have d11 : x11 = .pointer (some ⟨gd, g, none⟩) := hR 11 (by decide)
          have d12 : x12 = .int .i64 tk := hR 12 (by decide)
          have d13 : x13 = .bool (decide (tk < y)) := hR 13 (by decide)
          have d14 : x14 = .bool (decide (tk < y)) := hR 14 (by decide)
          clear hR
          subst d0
          subst d1
          subst d2
          subst d3
          subst d4
          subst d5
          subst d6
          subst d7
          subst d8
          subst d9
          subst d10
          subst d11
          subst d12
          subst d13
          subst d14
          try simp only [putAll, Act.put, List.setIfInBounds_toArray, List.set_cons_zero, List.set_cons_succ]
          have F13 := Lib.hid hS
          clear hS hb1 F12
          obtain ⟨V3, rfl⟩ : ∃ x : World, x = w1 := ⟨_, rfl⟩
          by_cases hty : tk < y
          · skip
            have htd : decide (tk < y) = true := by simpa using hty
            rw [htd]
            go_upto_region 11 with fail
            have hcnd : hh = 0 ∨ tk < y := .inr hty
            have hsg := (HST2.out g).2.1 rfl (by rw [HTK.out]; exact hcnd)
            have HF1 := Lib.hid (fillC y hgn hsg.1 (fun i hi => ((HST2.out i).1 (fun h => hi h.symm)).1))
            have HF2 := Lib.hid (fillC hh hgn hsg.2 (fun i hi => ((HST2.out i).1 (fun h => hi h.symm)).2))
            clear hsg hcnd
            refine wp_region_inv (w := V3) 10 (fun _ _ => True) (fun k9 W => (k9 = 0 → Fr w.heap.size w W [(w.heap.size, [.slice a xs.length c, .slice (some ⟨gy, oy, none⟩) ys.length d]), (w.heap.size + 1, [.slice none 0 0, .slice none 0 0]), (X2, [.int .i64 (ax : Int)]), (X8, [.slice as_ S.length cs_, .slice (some ⟨gd, 0, none⟩) N N])] [(.i64, a, xs), (.i64, (some ⟨gy, oy, none⟩), ys)] [⟨3, .slice as_ S.length cs_, S.length, S.map (Value.int .i64)⟩, ⟨2, .slice (some ⟨gd, 0, none⟩) N N, N, ((List.range N).map (TT k)).map (Value.int .i64)⟩, ⟨3, .slice (some ⟨gp, 0, none⟩) N N, N, ((List.range N).map (PP k)).map (Value.int .i64)⟩] []) ∧ (k9 = 1 → Fr w.heap.size w W [(w.heap.size, [.slice a xs.length c, .slice (some ⟨gy, oy, none⟩) ys.length d]), (w.heap.size + 1, [.slice none 0 0, .slice none 0 0]), (X2, [.int .i64 (ax : Int)]), (X8, [.slice as_ S.length cs_, .slice (some ⟨gd, 0, none⟩) N N])] [(.i64, a, xs), (.i64, (some ⟨gy, oy, none⟩), ys)] [⟨3, .slice as_ S.length cs_, S.length, S.map (Value.int .i64)⟩, ⟨2, .slice (some ⟨gd, 0, none⟩) N N, N, ((List.range N).map (TT (k + 1))).map (Value.int .i64)⟩, ⟨3, .slice (some ⟨gp, 0, none⟩) N N, N, ((List.range N).map (PP k)).map (Value.int .i64)⟩] [])) [9] [(fun u _ => u = .pointer (some ⟨X8, 1, none⟩)), (fun u _ => u = .slice (some ⟨gd, 0, none⟩) N N), (fun u _ => u = .int .i64 (g : Int)), (fun u _ => u = .pointer (some ⟨w.heap.size, 1, none⟩)), (fun u _ => u = .slice (some ⟨gy, oy, none⟩) ys.length d), (fun u _ => u = .int .i64 (k : Int)), (fun u _ => u = .pointer (some ⟨gy, oy + k, none⟩)), (fun u _ => u = .int .i64 y), (fun u _ => u = .pointer (some ⟨gd, g, none⟩)), (fun _ _ => True)] [some 62, some 63, some 64, some 65, some 66, some 67, some 68, some 69, some 70, none] (by kernel_rfl) (by kernel_rfl) rfl (by kernel_rfl) (by kernel_rfl) (by decide) (by decide) (fun _ _ => trivial) trivial ⟨fun _ => F13.out.drew, fun h => absurd h (by decide)⟩ (BorneAll.at (.cons (borne_eq _) (.cons (borne_eq _) (.cons (borne_eq _) (.cons (borne_eq _) (.cons (borne_eq _) (.cons (borne_eq _) (.cons (borne_eq _) (.cons (borne_eq _) (.cons (borne_eq _) (.cons (fun _ _ _ _ _ => trivial) .nil))))))))))) (fun vs b hvl hvb => ?_)
            obtain ⟨x0, x1, x2, x3, x4, x5, x6, x7, x8, x9, rfl⟩ : ∃ x0 x1 x2 x3 x4 x5 x6 x7 x8 x9, vs = [x0, x1, x2, x3, x4, x5, x6, x7, x8, x9] := lst10 hvl
            clear hvl
            simp only [putAll, Act.put, List.setIfInBounds_toArray, List.set_cons_zero, List.set_cons_succ] at hvb
            subst hvb
            refine ⟨(.snoc (.snoc (.snoc (.snoc (.snoc (.snoc (.snoc (.snoc (.snoc (.snoc .zero (InvOb.intro (d := (some 62)) (r := fun u _ => u = .pointer (some ⟨X8, 1, none⟩)) 0 0 rfl rfl rfl (by kernel_rfl) (by kernel_rfl) rfl ?io11nx0)) (InvOb.intro (d := (some 63)) (r := fun u _ => u = .slice (some ⟨gd, 0, none⟩) N N) 0 0 rfl rfl rfl (by kernel_rfl) (by kernel_rfl) rfl ?io11nx1)) (InvOb.intro (d := (some 64)) (r := fun u _ => u = .int .i64 (g : Int)) 0 0 rfl rfl rfl (by kernel_rfl) (by kernel_rfl) rfl ?io11nx2)) (InvOb.intro (d := (some 65)) (r := fun u _ => u = .pointer (some ⟨w.heap.size, 1, none⟩)) 0 0 rfl rfl rfl (by kernel_rfl) (by kernel_rfl) rfl ?io11nx3)) (InvOb.intro (d := (some 66)) (r := fun u _ => u = .slice (some ⟨gy, oy, none⟩) ys.length d) 0 0 rfl rfl rfl (by kernel_rfl) (by kernel_rfl) rfl ?io11nx4)) (InvOb.intro (d := (some 67)) (r := fun u _ => u = .int .i64 (k : Int)) 0 0 rfl rfl rfl (by kernel_rfl) (by kernel_rfl) rfl ?io11nx5)) (InvOb.intro (d := (some 68)) (r := fun u _ => u = .pointer (some ⟨gy, oy + k, none⟩)) 0 0 rfl rfl rfl (by kernel_rfl) (by kernel_rfl) rfl ?io11nx6)) (InvOb.intro (d := (some 69)) (r := fun u _ => u = .int .i64 y) 0 0 rfl rfl rfl (by kernel_rfl) (by kernel_rfl) rfl ?io11nx7)) (InvOb.intro (d := (some 70)) (r := fun u _ => u = .pointer (some ⟨gd, g, none⟩)) 0 0 rfl rfl rfl (by kernel_rfl) (by kernel_rfl) rfl ?io11nx8)) (InvOb.put (d := none) (r := fun _ _ => True) 0 rfl rfl rfl (by kernel_rfl) (by kernel_rfl) rfl ?io11nx9)), ?iend11n⟩
            case io11nx0 =>
              intro k1 w1 hk0 hk1 hb1 hS hd KK hK
              clear hd
              simp only [Act.put, List.setIfInBounds_toArray, List.set_cons_zero, List.set_cons_succ] at hK
              go_simp
              first | exact hK.out _ _ trivial hS rfl | (have hk := hK.out _ _ trivial hS rfl; revert hk; go_simp)
            case io11nx1 =>
              intro k1 w1 hk0 hk1 hb1 hS hd KK hK
              have d0 : x0 = .pointer (some ⟨X8, 1, none⟩) := hd 0 (by kernel_rfl)
              clear hd
              subst d0
              have hF := hS.1 (by omega)
              have k1 := hF.c 3 1 rfl rfl
              simp only [Act.put, List.setIfInBounds_toArray, List.set_cons_zero, List.set_cons_succ] at hK
              go_simp
              first | exact hK.out _ _ trivial hS rfl | (have hk := hK.out _ _ trivial hS rfl; revert hk; go_simp)
            case io11nx2 =>
              intro k1 w1 hk0 hk1 hb1 hS hd KK hK
              clear hd
              simp only [Act.put, List.setIfInBounds_toArray, List.set_cons_zero, List.set_cons_succ] at hK
              go_simp
              first | exact hK.out _ _ trivial hS rfl | (have hk := hK.out _ _ trivial hS rfl; revert hk; go_simp)
            case io11nx3 =>
              intro k1 w1 hk0 hk1 hb1 hS hd KK hK
              clear hd
              simp only [Act.put, List.setIfInBounds_toArray, List.set_cons_zero, List.set_cons_succ] at hK
              go_simp
              first | exact hK.out _ _ trivial hS rfl | (have hk := hK.out _ _ trivial hS rfl; revert hk; go_simp)
            case io11nx4 =>
              intro k1 w1 hk0 hk1 hb1 hS hd KK hK
              have d3 : x3 = .pointer (some ⟨w.heap.size, 1, none⟩) := hd 3 (by kernel_rfl)
              clear hd
              subst d3
              have hF := hS.1 (by omega)
              have k1 := hF.c 0 1 rfl rfl
              simp only [Act.put, List.setIfInBounds_toArray, List.set_cons_zero, List.set_cons_succ] at hK
              go_simp
              first | exact hK.out _ _ trivial hS rfl | (have hk := hK.out _ _ trivial hS rfl; revert hk; go_simp)
            case io11nx5 =>
              intro k1 w1 hk0 hk1 hb1 hS hd KK hK
              clear hd
              simp only [Act.put, List.setIfInBounds_toArray, List.set_cons_zero, List.set_cons_succ] at hK
              go_simp
              first | exact hK.out _ _ trivial hS rfl | (have hk := hK.out _ _ trivial hS rfl; revert hk; go_simp)
            case io11nx6 =>
              intro k1 w1 hk0 hk1 hb1 hS hd KK hK
              have d4 : x4 = .slice (some ⟨gy, oy, none⟩) ys.length d := hd 4 (by kernel_rfl)
              have d5 : x5 = .int .i64 (k : Int) := hd 5 (by kernel_rfl)
              clear hd
              subst d4
              subst d5
              simp only [Act.put, List.setIfInBounds_toArray, List.set_cons_zero, List.set_cons_succ] at hK
              go_simp
              first | exact hK.out _ _ trivial hS rfl | (have hk := hK.out _ _ trivial hS rfl; revert hk; go_simp)
            case io11nx7 =>
              intro k1 w1 hk0 hk1 hb1 hS hd KK hK
              have d6 : x6 = .pointer (some ⟨gy, oy + k, none⟩) := hd 6 (by kernel_rfl)
              clear hd
              subst d6
              have hF := hS.1 (by omega)
              obtain ⟨b9, o9, he, hl9, hcx⟩ := (hF.l 1 rfl).cell k hlk
              cases he
              rw [HY.out] at hcx
              simp only [Act.put, List.setIfInBounds_toArray, List.set_cons_zero, List.set_cons_succ] at hK
              go_simp
              first | exact hK.out _ _ trivial hS rfl | (have hk := hK.out _ _ trivial hS rfl; revert hk; go_simp)
            case io11nx8 =>
              intro k1 w1 hk0 hk1 hb1 hS hd KK hK
              have d0 : x0 = .pointer (some ⟨X8, 1, none⟩) := hd 0 (by kernel_rfl)
              have d1 : x1 = .slice (some ⟨gd, 0, none⟩) N N := hd 1 (by kernel_rfl)
              have d2 : x2 = .int .i64 (g : Int) := hd 2 (by kernel_rfl)
              have d3 : x3 = .pointer (some ⟨w.heap.size, 1, none⟩) := hd 3 (by kernel_rfl)
              have d4 : x4 = .slice (some ⟨gy, oy, none⟩) ys.length d := hd 4 (by kernel_rfl)
              have d5 : x5 = .int .i64 (k : Int) := hd 5 (by kernel_rfl)
              have d6 : x6 = .pointer (some ⟨gy, oy + k, none⟩) := hd 6 (by kernel_rfl)
              have d7 : x7 = .int .i64 y := hd 7 (by kernel_rfl)
              clear hd
              subst d0
              subst d1
              subst d2
              subst d3
              subst d4
              subst d5
              subst d6
              subst d7
              simp only [Act.put, List.setIfInBounds_toArray, List.set_cons_zero, List.set_cons_succ] at hK
              go_simp
              first | exact hK.out _ _ trivial hS rfl | (have hk := hK.out _ _ trivial hS rfl; revert hk; go_simp)
            case io11nx9 =>
              intro w1 hb1 hS hd KK hK
              have d0 : x0 = .pointer (some ⟨X8, 1, none⟩) := hd 0 (by kernel_rfl)
              have d1 : x1 = .slice (some ⟨gd, 0, none⟩) N N := hd 1 (by kernel_rfl)
              have d2 : x2 = .int .i64 (g : Int) := hd 2 (by kernel_rfl)
              have d3 : x3 = .pointer (some ⟨w.heap.size, 1, none⟩) := hd 3 (by kernel_rfl)
              have d4 : x4 = .slice (some ⟨gy, oy, none⟩) ys.length d := hd 4 (by kernel_rfl)
              have d5 : x5 = .int .i64 (k : Int) := hd 5 (by kernel_rfl)
              have d6 : x6 = .pointer (some ⟨gy, oy + k, none⟩) := hd 6 (by kernel_rfl)
              have d7 : x7 = .int .i64 y := hd 7 (by kernel_rfl)
              have d8 : x8 = .pointer (some ⟨gd, g, none⟩) := hd 8 (by kernel_rfl)
              clear hd
              subst d0
              subst d1
              subst d2
              subst d3
              subst d4
              subst d5
              subst d6
              subst d7
              subst d8
              have hF := hS.1 rfl
              obtain ⟨kc, kf⟩ := hF.rc 1 g rfl (rangeV (TT k) hgn)
              simp only [Act.put, List.setIfInBounds_toArray, List.set_cons_zero, List.set_cons_succ] at hK
              go_simp
              first | exact hK.out undef _ trivial ⟨fun h => absurd h (by decide), fun _ => by have hp := hF.put 1 g rfl (.int .i64 y); simp only [List.set_cons_zero, List.set_cons_succ] at hp; rw [HF1.out] at hp; exact hp⟩ trivial | (have hk := hK.out undef _ trivial ⟨fun h => absurd h (by decide), fun _ => by have hp := hF.put 1 g rfl (.int .i64 y); simp only [List.set_cons_zero, List.set_cons_succ] at hp; rw [HF1.out] at hp; exact hp⟩ trivial; revert hk; go_simp)
            case iend11n =>
              intro w1 hb1 hS hR
              have d0 : x0 = .pointer (some ⟨X8, 1, none⟩) := hR 0 (by decide)
              have d1 : x1 = .slice (some ⟨gd, 0, none⟩) N N := hR 1 (by decide)
              have d2 : x2 = .int .i64 (g : Int) := hR 2 (by decide)
              have d3 : x3 = .pointer (some ⟨w.heap.size, 1, none⟩) := hR 3 (by decide)
              have d4 : x4 = .slice (some ⟨gy, oy, none⟩) ys.length d := hR 4 (by decide)
              have d5 : x5 = .int .i64 (k : Int) := hR 5 (by decide)
              have d6 : x6 = .pointer (some ⟨gy, oy + k, none⟩) := hR 6 (by decide)
              have d7 : x7 = .int .i64 y := hR 7 (by decide)
              have d8 : x8 = .pointer (some ⟨gd, g, none⟩) := hR 8 (by decide)
              clear hR
              subst d0
              subst d1
              subst d2
              subst d3
              subst d4
              subst d5
              subst d6
              subst d7
              subst d8
              try simp only [putAll, Act.put, List.setIfInBounds_toArray, List.set_cons_zero, List.set_cons_succ]
              have F14 := Lib.hid (hS.2 rfl)
              clear hS hb1 F13
              obtain ⟨V4, rfl⟩ : ∃ x : World, x = w1 := ⟨_, rfl⟩
              obtain ⟨kc, kf⟩ := F14.out.rc 2 g rfl (rangeV (PP k) hgn)
              go_wp2_with fail
              have hp := F14.out.put 2 g rfl (.int .i64 hh)
              simp only [List.set_cons_zero, List.set_cons_succ] at hp
              rw [HF2.out] at hp
              have F15 := Lib.hid hp
              clear hp kc kf F14
              go_roundw
              case rel => exact ⟨k + 1, by omega, by go_num, F15⟩
              case measure => simp [intOf]; omega
          · skip
            have htd : decide (tk < y) = false := by simpa using hty
            rw [htd]
            have hne : ¬ (hh = 0 ∨ tk < y) := by rintro (h | h); exact hc0 h; exact hty h
            have eT : TT (k + 1) = TT k := funext fun i => by by_cases hi : g = i; exact ((HST2.out i).2.2 hi (by rw [← hi, HTK.out]; exact hne)).1; exact ((HST2.out i).1 hi).1
            have eP : PP (k + 1) = PP k := funext fun i => by by_cases hi : g = i; exact ((HST2.out i).2.2 hi (by rw [← hi, HTK.out]; exact hne)).2; exact ((HST2.out i).1 hi).2
            have F15 : Hid (Fr w.heap.size w V3 [(w.heap.size, [.slice a xs.length c, .slice (some ⟨gy, oy, none⟩) ys.length d]), (w.heap.size + 1, [.slice none 0 0, .slice none 0 0]), (X2, [.int .i64 (ax : Int)]), (X8, [.slice as_ S.length cs_, .slice (some ⟨gd, 0, none⟩) N N])] [(.i64, a, xs), (.i64, (some ⟨gy, oy, none⟩), ys)] [⟨3, .slice as_ S.length cs_, S.length, S.map (Value.int .i64)⟩, ⟨2, .slice (some ⟨gd, 0, none⟩) N N, N, ((List.range N).map (TT (k + 1))).map (Value.int .i64)⟩, ⟨3, .slice (some ⟨gp, 0, none⟩) N N, N, ((List.range N).map (PP (k + 1))).map (Value.int .i64)⟩] []) := Lib.hid (by rw [eT, eP]; exact F13.out)
            clear F13 eT eP hne
            go_wp2_with fail
            go_roundw
            case rel => exact ⟨k + 1, by omega, by go_num, F15⟩
            case measure => simp [intOf]; omega
    · obtain rfl : k = ys.length := by omega
      have c3_0 := F8.out.c 3 0 rfl rfl
      have c3_1 := F8.out.c 3 1 rfl rfl
      have df1_0 := F8.out.f 1 0 rfl rfl
      have df1_1 := F8.out.f 1 1 rfl rfl
      have d1_0 := F8.out.c 1 0 rfl rfl
      have d1_1 := F8.out.c 1 1 rfl rfl
      go_wp2_with fail
      have FZ := F8.out.set 1 rfl (by simp) [.slice as_ S.length cs_, .slice (some ⟨gd, 0, none⟩) N N] rfl
      simp only [setL, Nat.reduceAdd, List.set_cons_zero, List.set_cons_succ] at FZ
      have y0 := FZ.c 1 0 rfl rfl
      have y1 := FZ.c 1 1 rfl rfl
      have hl1 : ((List.range N).map (TT ys.length)).length = N := by simp
      have hl2 : ((List.range N).map (PP ys.length)).length = N := by simp
      obtain ⟨U, hU⟩ : ∃ x, (wi.setCell ⟨w.heap.size + 1, 0, none⟩ (.slice as_ S.length cs_)).setCell ⟨w.heap.size + 1, 1, none⟩ (.slice (some ⟨gd, 0, none⟩) N N) = x := ⟨_, rfl⟩
      rw [hU] at FZ y0 y1 ⊢
      have hpost : RetM2 w S ((List.range N).map (TT ys.length)) ((List.range N).map (PP ys.length)) (.returned (.tuple #[.agg #[.slice as_ S.length cs_, .slice (some ⟨gd, 0, none⟩) N N], .slice (some ⟨gp, 0, none⟩) N N])) U := ⟨as_, cs_, some ⟨gd, 0, none⟩, N, some ⟨gp, 0, none⟩, N, by rw [hl1, hl2], by rw [hl1, hl2]; exact FZ.less (List.nil_sublist _) (List.nil_sublist _) (.refl _) (.refl _)⟩
      refine bodyPost_ret ?_ rfl hpost
      rw [results_ctZ rfl]
      go_simp
end Go.Proofs.YtinboddfmojodaaGreat
