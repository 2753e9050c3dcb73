/- The law EmbedRows, walked. -/
import Derived.Test.YtimjhjacinchjaaERowsP
import Derived.Test.YtimjhjacinchjaaELaw
import Derived.Test.YtimjhjacinchjaaParts
import Derived.WalkMore
import Derived.Deep.RegionHeld3
import Derived.Deep.RegionWith
import Derived.BigRegion
import Derived.Deep.Cut
import Derived.Deep.CutBlock
import Derived.Deep.CutRange
set_option linter.unusedVariables false
set_option linter.unusedSimpArgs false
namespace Go.Proofs.Ytimjhjacinchjaa
open Go.RowKit Go.Rt

theorem lst10 {α : Type} {l : List α} (h : l.length = 10) : ∃ x0 x1 x2 x3 x4 x5 x6 x7 x8 x9, l = [x0, x1, x2, x3, x4, x5, x6, x7, x8, x9] := by
  match l, h with
  | [x0, x1, x2, x3, x4, x5, x6, x7, x8, x9], _ => exact ⟨x0, x1, x2, x3, x4, x5, x6, x7, x8, x9, rfl⟩
theorem lst12 {α : Type} {l : List α} (h : l.length = 12) : ∃ x0 x1 x2 x3 x4 x5 x6 x7 x8 x9 x10 x11, l = [x0, x1, x2, x3, x4, x5, x6, x7, x8, x9, x10, x11] := by
  match l, h with
  | [x0, x1, x2, x3, x4, x5, x6, x7, x8, x9, x10, x11], _ => exact ⟨x0, x1, x2, x3, x4, x5, x6, x7, x8, x9, x10, x11, rfl⟩
/-- A tensor as a value. -/
def IsA (xs ys : List Int) (u : Value) (w : World) : Prop := ∃ a c b d, u = .agg #[.slice a xs.length c, .slice b ys.length d] ∧ Ten w w.heap.size a c b d xs ys
theorem isA_carries (xs ys : List Int) : Carries (IsA xs ys) := fun _ _ _ ⟨a, c, b, d, h, h1⟩ hb => ⟨a, c, b, d, h, h1.next hb⟩
/-- Claims on values: a tensor and an error; a variable of two slices. -/
def IsT (xs ys : List Int) (z : Int) (u : Value) (w : World) : Prop := ∃ a c b d, u = .tuple #[.agg #[.slice a xs.length c, .slice b ys.length d], .int .i64 z] ∧ Ten w w.heap.size a c b d xs ys
theorem isT_carries (xs ys : List Int) (z : Int) : Carries (IsT xs ys z) := fun _ _ _ ⟨a, c, b, d, h, h1⟩ hb => ⟨a, c, b, d, h, h1.next hb⟩
def IsTB (W : World) (u : Value) (w : World) : Prop := ∃ q, u = .pointer (some ⟨q, 0, none⟩) ∧ W.heap.size ≤ q ∧ q < w.heap.size ∧ Box2 w q (.slice none 0 0) (.slice none 0 0)
theorem isTB_carries (W : World) : Carries (IsTB W) := fun _ _ _ ⟨q, h, h1, h2, h3⟩ hb => ⟨q, h, h1, Nat.lt_of_lt_of_le h2 hb.size, h3.below hb h2⟩
theorem retTen_is {w W : World} {xs ys : List Int} {z : Int} {e : Ending} (h : RetTen w xs ys z e W) (hw : ∀ y ∈ ys, isW y = true) : ∃ a c b d, e = .returned (.tuple #[.agg #[.slice a xs.length c, .slice b ys.length d], .int .i64 z]) ∧ Ten W W.heap.size a c b d xs ys ∧ Below w.heap.size w W := by
  obtain ⟨a, c, b, d, mid, rfl, _, hm, hI, ⟨hcap, _⟩, hO, hb⟩ := h
  exact ⟨a, c, b, d, rfl, ten_made hm hI hcap hO hw, hb⟩
theorem TEnv.dropN {B : Nat} {w0 W : World} {T : List TenV} {C : List (Addr × Value)} (h : TEnv B w0 W T C) (i j : Nat) : TEnv B w0 W (T.drop i) (C.drop j) := ⟨h.hB, h.bel, fun p hp => h.tens p (List.mem_of_mem_drop hp), fun p hp => h.cells p (List.mem_of_mem_drop hp)⟩
theorem make_ints (n : Nat) (hn : n ≤ 17592186044416) (w : World) : (Instr.makeSlice 23 (.int .i64 (n : Int)) (.int .i64 (n : Int))).run Try.prog w = .ok (.slice (some ⟨w.heap.size, 0, none⟩) n n) (w.alloc (.cells (madeCells #[Value.int .i64 0] n) 3)) := by
  obtain ⟨i, hi, hz0, hz1, hz2⟩ := info_parts infoInt
  have hr := run_make (P := Try.prog) w 23 3 i (.int .i64 0) Try.underlying23 hi hz0 .i64 .i64 n n (by omega) (Int.le_refl _) (by rw [hz2]; omega) (by omega)
  simp only [Int.toNat_natCast, hz1, Nat.mul_one, Value.cells] at hr
  exact hr
theorem made_row (w : World) (n : Nat) (hn : n ≤ 17592186044416) : (w.alloc (.cells (madeCells #[Value.int .i64 0] n) 3)).ownsRow w.heap.size 3 1 (.slice (some ⟨w.heap.size, 0, none⟩) n n) n ((partL onesV n 0).map (Value.int .i64)) := by
  have row := World.ownsRow_lit (base := w.heap.size) (e := 3) (size := 1) w (madeCells #[Value.int .i64 0] n) n (Nat.le_refl _) (by unfold maxLen; omega) (by rw [size_madeCells, Nat.mul_one])
  rw [made_zeros] at row
  rw [partL_zero]
  exact row
/-- Two rows of one's own lie apart. -/
def Apart (v v' : Value) : Prop := v.ownBlock = none ∨ v'.ownBlock = none ∨ v.ownBlock ≠ v'.ownBlock
theorem Apart.symm {v v' : Value} (h : Apart v v') : Apart v' v := by
  rcases h with h | h | h
  · exact .inr (.inl h)
  · exact .inl h
  · exact .inr (.inr (Ne.symm h))
theorem apart_append {w w' : World} {base : Nat} {e : TypeId} {k : Nat} {v v2 v' : Value} {xs : List Value} (h : w.ownsRow base e 1 v2 k xs) (ha : Apart v v2) (hg : w.grownBy w' v.ownBlock) (hob : v'.ownBlock = v.ownBlock ∨ v'.ownBlock = some (w.heap.size + 1)) : w'.ownsRow base e 1 v2 k xs ∧ Apart v' v2 := by
  have hlt : v2.ownBlock ≠ some (w.heap.size + 1) := by
    intro he
    have := h.lt (w.heap.size + 1) he
    omega
  constructor
  · refine h.kept hg ?_
    rcases ha with h1 | h1 | h1
    · rw [h1]
      cases h2 : v2.ownBlock with
      | none => exact .inl rfl
      | some b => exact .inr (by intro he; cases he)
    · exact .inl h1
    · exact .inr (Ne.symm h1)
  · rcases hob with h1 | h1
    · unfold Apart at *
      rw [h1]
      exact ha
    · exact .inr (.inr (by rw [h1]; exact Ne.symm hlt))
theorem ten_list {W : World} {a : Option Addr} {c : Nat} {xs : List Int} (h : Ints .i64 W W.heap.size a xs) (hc : xs.length ≤ c ∧ c ≤ 9223372036854775807) : Ten W W.heap.size a c none 0 xs [] := ⟨h, Ints.nil _ _ _ _, hc.1, hc.2, Nat.le_refl _, by decide⟩
theorem i64_of {ids : List Int} {R : Nat} (hR : R ≤ 9223372036854775807) (h : ∀ k ∈ ids, 0 ≤ k ∧ k < (R : Int)) : ∀ k ∈ ids, (Lit.int .i64 k).wf = true := fun k hk => wf_i64_iff.2 ⟨by have := h k hk; omega, by have := h k hk; omega⟩
theorem twL_snoc (ms : List Int) (n k : Nat) (h : k < ms.length) : twL (ms.take (k + 1)) n = twL (ms.take k) n ++ [(withinN (ms[k]?.getD 0) n).toNat] := by
  unfold twL
  rw [take_snoc ms k h, List.map_append, List.map_singleton, List.getElem?_eq_getElem h, Option.getD_some]
/-- A tensor laid into a variable of its own. -/
theorem TEnv.boxed {B : Nat} {w0 W w1 : World} {T : List TenV} {C : List (Addr × Value)} {q : Nat} {a b : Option Addr} {c d : Nat} {xs ys : List Int} (E : TEnv B w0 W T C) (hb : Below W.heap.size W w1) (hT : Ten w1 w1.heap.size a c b d xs ys) (hX : Box2 w1 q (.slice none 0 0) (.slice none 0 0)) (hq : W.heap.size ≤ q) (v0 v1 : Value) :
    TEnv B w0 ((w1.setCell ⟨q, 0, none⟩ v0).setCell ⟨q, 1, none⟩ v1) (⟨a, c, b, d, xs, ys⟩ :: T) ((⟨q, 0, none⟩, v0) :: (⟨q, 1, none⟩, v1) :: C) := by
  refine ((((E.next hb).addT hT).addC hX.c1).addC hX.c0).setBox (Nat.le_trans E.hB hq) (fun p hp => ?_) v0 v1
  exact Nat.lt_of_lt_of_le (E.cells p hp).2 hq

set_option maxHeartbeats 8000000 in
set_option maxRecDepth 100000 in
theorem rows17_any (a : Option Addr) (n c : Nat) (w : World) (h : AsksAt w w.heap.size a n) :
    Calls Try.prog 3 #[.slice a n c] w fun e w' => e = .returned (.bool true) ∧ Below w.heap.size w w' := by
  have hm := h.len
  go_enter Try.func3, Try.ntmps3
  go_wp2_with fail
  go_loopw [3] (fun i wr => ∃ k : Nat, k ≤ n ∧ i = .int .i64 k ∧ Below w.heap.size w wr) (fun i _ => n - (intOf i).toNat)
  case atStart => exact ⟨0, Nat.zero_le _, rfl, Below.refl _ _⟩
  case round =>
    obtain ⟨k, hk, rfl, hbel⟩ := hrel
    obtain ⟨wo, rfl⟩ : ∃ wo : World, wo = wr := ⟨_, rfl⟩
    by_cases hend : k < n ∧ k < 10
    · obtain ⟨hlt, h6⟩ := hend
      obtain ⟨b, off, ⟨aA, cA, bA, dA, xsA, ysA⟩, ⟨aI, cI, aM, cM, ids, ms⟩, X, F, rfl, ht⟩ := h.at_ k hlt
      replace ht := ht.below hbel
      have hsz := hbel.size
      obtain ⟨hbl, c0, c1, c2, c3, c4, c5, tA, tB, X0, X1, F0, F1⟩ := ht
      replace tA := tA.mono hsz
      replace tB := tB.mono hsz
      have HB := Lib.hid hbel
      simp only at c0 c1 c2 c3 tA tB
      have E : TEnv wo.heap.size wo (wo.alloc (.cells #[.slice aA xsA.length cA, .slice bA ysA.length dA, .slice aI ids.length cI, .slice aM ms.length cM, .int .i64 X, .int .i64 F] 28)) [⟨aA, cA, bA, dA, xsA, ysA⟩, ⟨aI, cI, aM, cM, ids, ms⟩] [(⟨wo.heap.size, 0, none⟩, .slice aA xsA.length cA), (⟨wo.heap.size, 1, none⟩, .slice bA ysA.length dA), (⟨wo.heap.size, 2, none⟩, .slice aI ids.length cI), (⟨wo.heap.size, 3, none⟩, .slice aM ms.length cM), (⟨wo.heap.size, 4, none⟩, .int .i64 X), (⟨wo.heap.size, 5, none⟩, .int .i64 F)] :=
        (((((((((TEnv.start wo).addT tB).addT tA).alloc _).addC (by simp [go_sem])).addC (by simp [go_sem])).addC (by simp [go_sem])).addC (by simp [go_sem])).addC (by simp [go_sem])).addC (by simp [go_sem])
      have lA := tA.sh.len
      have lI := tB.sh.len
      have mA := tA.da.len
      have mM := tB.da.len
      have HH := Lib.hid (heavy17_any aA bA aI aM xsA.length cA ysA.length dA ids.length cI ms.length cM X F (wo.alloc (.cells #[.slice aA xsA.length cA, .slice bA ysA.length dA, .slice aI ids.length cI, .slice aM ms.length cM, .int .i64 X, .int .i64 F] 28)) lA mA)
      clear tA tB hbel h
      cases hhv : heavyE xsA.length ysA.length ids.length ms.length with
      | true =>
        rw [hhv] at HH
        clear hhv
        go_wp2_with fail
        refine HH.out.mono ?_
        rintro e w1 ⟨rfl, hb⟩
        have HE := Lib.hid (E.bel.trans (hb.mono E.hB))
        clear hb E HH
        go_wp2_with fail
        go_ret
        exact ⟨rfl, HB.out.trans (HE.out.mono hsz)⟩
      | false =>
        rw [hhv] at HH
        have hA40 : ysA.length ≤ 40 ∧ xsA.length ≤ 8 ∧ ids.length ≤ 60 ∧ ms.length ≤ 100 := by
          unfold heavyE at hhv
          simp at hhv
          omega
        obtain ⟨hA40, hA8, hI60, hM100⟩ := hA40
        clear hhv lA lI mA mM
        go_upto_region 7 with (refine HH.out.mono ?_; rintro e w1 ⟨rfl, hb⟩; replace E := E.next hb; clear hb HH c0 c1 c2 c3 c4 c5)
        cases tA : tenB xsA ysA with
        | false =>
          as_aux_lemma =>
            have p1x := E.cellN 0 rfl
            have p2x := E.cellN 1 rfl
            have p3x := E.cellN 2 rfl
            have p4x := E.cellN 3 rfl
            have p5x := E.cellN 4 rfl
            have p6x := E.cellN 5 rfl
            go_wp2_with (go_at_call 6; refine (tenMay_any _ _ _ _ _ _ _ (E.tenN 0 rfl).sh (E.tenN 0 rfl).da).mono ?_; rintro e w2 ⟨he, hb⟩; rw [tA] at he; subst he; replace E := E.next hb; clear p1x p2x p3x p4x p5x p6x; have p7x := E.cellN 0 rfl; have p8x := E.cellN 1 rfl; have p9x := E.cellN 2 rfl; have p10x := E.cellN 3 rfl; have p11x := E.cellN 4 rfl; have p12x := E.cellN 5 rfl; clear hb)
            go_roundw
            case rel => exact ⟨k + 1, by omega, by go_num, HB.out.trans (E.bel.mono hsz)⟩
            case measure => simp [intOf]; omega
        | true =>
          by_cases h2 : xsA.length = 2
          · have hlb : ((xsA.length : Int) != 2) = false := by rw [h2]; rfl
            have lT := tenB_iff.1 tA
            obtain ⟨r, dd, hxA⟩ := list2 h2
            have gX := lT.1
            rw [hxA] at gX
            have hdr := (goodB_dims gX).at (show 0 < 2 by decide)
            have hdd := (goodB_dims gX).at (show 1 < 2 by decide)
            simp only [List.getElem_cons_zero, List.getElem_cons_succ] at hdr hdd
            obtain ⟨R, rfl⟩ : ∃ R : Nat, r = (R : Int) := ⟨r.toNat, by omega⟩
            obtain ⟨D, rfl⟩ : ∃ D : Nat, dd = (D : Int) := ⟨dd.toNat, by omega⟩
            have hR : 1 ≤ R := by omega
            have hD : 1 ≤ D := by omega
            have hRm : R ≤ 4096 := by omega
            have hlen : ysA.length = R * D := by have := lT.2.1; rw [hxA] at this; simp [prodI] at this; rw [← Int.natCast_mul] at this; omega
            obtain ⟨f, hf, hf0, hf1⟩ : ∃ f : Nat, 8 + withinN F 25 = (f : Int) ∧ 8 ≤ f ∧ f ≤ 32 := ⟨(8 + withinN F 25).toNat, by have := withinN_bound F 25 (by decide); omega, by have := withinN_bound F 25 (by decide); omega, by have := withinN_bound F 25 (by decide); omega⟩
            have hF := fun w => Lib.hid (f_any F w ⟨F0, F1⟩)
            rw [hf] at hF
            clear hf
            have hea := emb_all hR gX hlen
            have hRA : ∀ a b a2 c d c2 W, Ten W W.heap.size a c b d xsA ysA → Ints .i64 W W.heap.size a2 (allL R) → Hid (Calls Try.prog 8 #[.agg #[.slice a xsA.length c, .slice b ysA.length d], .slice a2 R c2] W (RetTen W xsA ysA 0)) := by
              intro a b a2 c d c2 W h1 h3
              have h := embRows_any a b a2 c d c2 xsA ysA (allL R) W h1 h3 tA
              rw [allL_len] at h
              rw [hxA, hea.1, hea.2.1, hea.2.2, ← hxA] at h
              exact Lib.hid h
            have hRI := fun a b a2 c d c2 W h1 h3 => Lib.hid (embRows_any a b a2 c d c2 xsA ysA ids W h1 h3 tA)
            have hWI := embY_word (xs := xsA) (ids := ids) lT.2.2
            obtain ⟨XI, hXI⟩ : ∃ x, embX xsA ids = x := ⟨_, rfl⟩
            obtain ⟨YI, hYI⟩ : ∃ x, embY xsA ysA ids = x := ⟨_, rfl⟩
            obtain ⟨Z, hZ⟩ : ∃ x, embE xsA ids = x := ⟨_, rfl⟩
            rw [hXI, hYI, hZ] at hRI
            rw [hYI] at hWI
            have hEq := fun a b a2 b2 c d c2 d2 W h1 h2 h3 h4 => Lib.hid (eqTensor_any a b a2 b2 c d c2 d2 xsA ysA xsA ysA W h1 h2 h3 h4)
            simp only [decide_true, Bool.and_self] at hEq
            have TA := Lib.hid tA
            have HXA := Lib.hid hxA
            have HLEN := Lib.hid hlen
            have IA := Lib.hid lT.2.2
            have WI := Lib.hid hWI
            have HXI := Lib.hid hXI
            have HYI := Lib.hid hYI
            have HZ := Lib.hid hZ
            have HX2 := Lib.hid h2
            have hl0 : 0 < xsA.length := by omega
            have hl3 : (0 : Int) < (xsA.length : Int) := by omega
            clear hea lT gX hdr hdd hlen hxA hWI hXI hYI hZ h2 tA
            have p13x := E.cellN 0 rfl
            have p14x := E.cellN 1 rfl
            have p15x := E.cellN 2 rfl
            have p16x := E.cellN 3 rfl
            have p17x := E.cellN 4 rfl
            have p18x := E.cellN 5 rfl
            go_upto_region 10 with (first | (go_at_call 6; refine (tenMay_any _ _ _ _ _ _ _ (E.tenN 0 rfl).sh (E.tenN 0 rfl).da).mono ?_; rintro e w2 ⟨he, hb⟩; rw [TA.out] at he; subst he; replace E := E.next hb; clear p13x p14x p15x p16x p17x p18x; have p19x := E.cellN 0 rfl; have p20x := E.cellN 1 rfl; have p21x := E.cellN 2 rfl; have p22x := E.cellN 3 rfl; have p23x := E.cellN 4 rfl; have p24x := E.cellN 5 rfl; clear hb) | (go_at_call 7; refine (hF _).out.mono ?_; rintro e w' ⟨rfl, rfl⟩))
            clear p19x p20x p21x p22x p23x p24x
            obtain ⟨W8, hW8⟩ : ∃ V : World, w2 = V := ⟨_, rfl⟩
            rw [hW8] at E ⊢
            clear hW8
            have E0 := Lib.hid E
            clear E
            go_wp2
            go_loopw [6, 7] (fun s6 s7 wr => ∃ i : Nat, i ≤ R ∧ s7 = .int .i64 i ∧ Hid (wr.ownsRow W8.heap.size 3 1 s6 i ((allL i).map (Value.int .i64))) ∧ Hid (Below W8.heap.size W8 wr)) (fun _ s7 _ => R - (intOf s7).toNat)
            case atStart => exact ⟨0, Nat.zero_le _, rfl, Lib.hid (World.ownsRow_nil _ _ _ _), Lib.hid (Below.refl _ _)⟩
            case round =>
              obtain ⟨i, hi, rfl, HO, HBB⟩ := hrel
              obtain ⟨wi, rfl⟩ : ∃ wi : World, wi = wr := ⟨_, rfl⟩
              have E := E0.out.next HBB.out
              have hszi := HBB.out.size
              obtain ⟨bx, ox, ex, lx, cx⟩ := (E.tenN 0 rfl).sh.cell 0 hl0
              have hx0 : xsA[0]?.getD 0 = (R : Int) := by rw [HXA.out]; rfl
              rw [hx0, Nat.add_zero] at cx
              clear hx0
              subst ex
              by_cases hil : i < R
              · have hil2 : (i : Int) < (R : Int) := by omega
                have p25x := E.cellN 0 rfl
                go_wp2_with (at_builtin; (refine appendI W8.heap.size _ i (allL i) (i : Int) _ _ _ rfl rfl rfl HO.out rfl (by omega) hszi ?_); intro v' w3 hown1 hbel1 hg1 hob1; have HO3 := Lib.hid hown1; have HB3 := Lib.hid (hbel1 _ _ (Nat.le_refl _) HBB.out); clear hown1 hbel1 hg1 hob1)
                go_roundw
                case rel => exact ⟨i + 1, by omega, by go_num, Lib.hid (by rw [allL_succ]; exact HO3.out), HB3⟩
                case measure => simp [intOf]; omega
              · have hie : R = i := by omega
                subst hie
                have hni : ¬ (R : Int) < (R : Int) := by omega
                obtain ⟨aL, cL, he, hIL⟩ := own_ints HO.out (i64_of (by omega) (fun k hk => allL_mem hk))
                rw [allL_len] at he
                subst he
                have hcL := own_cap HO.out
                have HIL := Lib.hid hIL
                clear hIL HO hi hil E0
                have p26x := E.cellN 0 rfl
                have p27x := E.cellN 1 rfl
                go_upto_region 14 with fail
                go_upto_region 15 with (first | (go_at_call 8; refine (hRA _ _ _ _ _ _ _ (E.tenN 0 rfl) HIL.out).out.mono ?_; rintro e w5 ⟨a5, c5, b5, d5, m5, rfl, _, hm, hI, ⟨hcap, hsh⟩, hO, hb⟩; replace E := E.made hb hm hI hcap hO (IA.out); clear hb hm hI hcap hsh hO; clear p26x p27x))
                obtain ⟨V5, hV5⟩ : ∃ V : World, w5.alloc (.cells #[.slice a5 xsA.length c5, .slice b5 ysA.length d5] 26) = V := ⟨_, rfl⟩
                replace E := E.box (.slice a5 xsA.length c5) (.slice b5 ysA.length d5) 26
                rw [hV5] at E ⊢
                clear hV5
                have p28x := E.cellN 0 rfl
                have p29x := E.cellN 1 rfl
                have p30x := E.cellN 2 rfl
                have p31x := E.cellN 3 rfl
                have p32x := E.cellN 4 rfl
                go_upto_region 17 with (first | (go_at_call 9; refine (num17_any _ _).mono ?_; rintro e w' ⟨rfl, rfl⟩) | (go_at_call 10; refine (hEq _ _ _ _ _ _ _ _ _ (E.tenN 0 rfl).sh (E.tenN 0 rfl).da (E.tenN 1 rfl).sh (E.tenN 1 rfl).da).out.mono ?_; rintro e w6 ⟨rfl, hb⟩; replace E := E.next hb; clear p28x p29x p30x p31x p32x; have p33x := E.cellN 2 rfl; have p34x := E.cellN 3 rfl; have p35x := E.cellN 4 rfl; clear hb))
                go_upto_region 18 with (first | (go_at_call 8; refine (hRI _ _ _ _ _ _ _ (E.tenN 1 rfl) (E.tenN 2 rfl).sh).out.mono ?_; rintro e w7 ⟨a7, c7, b7, d7, m7, rfl, _, hm, hI, ⟨hcap, hsh⟩, hO, hb⟩; replace E := E.made hb hm hI hcap hO (WI.out); clear hb hm hI hcap hsh hO; clear p33x p34x p35x))
                obtain ⟨V7, hV7⟩ : ∃ V : World, w7.alloc (.cells #[.slice a7 XI.length c7, .slice b7 YI.length d7] 26) = V := ⟨_, rfl⟩
                replace E := E.box (.slice a7 XI.length c7) (.slice b7 YI.length d7) 26
                rw [hV7] at E ⊢
                clear hV7
                have p36x := E.cellN 0 rfl
                have p37x := E.cellN 1 rfl
                have p38x := E.cellN 4 rfl
                have p39x := E.cellN 5 rfl
                have p40x := E.cellN 6 rfl
                have p41x := E.cellN 7 rfl
                clear hRA hRI
                go_upto_if 94 with (go_at_call 9; refine (num17_any _ _).mono ?_; rintro e w' ⟨rfl, rfl⟩)
                clear p36x p37x p38x p39x p40x p41x
                obtain ⟨W18, hW18⟩ : ∃ V : World, V7 = V := ⟨_, rfl⟩
                rw [hW18] at E ⊢
                clear hW18
                go_cut [5] from 92 to 146 (fun s5 wx => s5 = .int .i64 f ∧ TEnv wo.heap.size wo wx [⟨some ⟨bx, ox, none⟩, cA, bA, dA, xsA, ysA⟩, ⟨aI, cI, aM, cM, ids, ms⟩] [(⟨wo.heap.size, 0, none⟩, .slice (some ⟨bx, ox, none⟩) xsA.length cA), (⟨wo.heap.size, 1, none⟩, .slice bA ysA.length dA), (⟨wo.heap.size, 2, none⟩, .slice aI ids.length cI), (⟨wo.heap.size, 3, none⟩, .slice aM ms.length cM), (⟨wo.heap.size, 4, none⟩, .int .i64 X), (⟨wo.heap.size, 5, none⟩, .int .i64 F)])
                case first =>
                  by_cases hz : Z = 0
                  · as_aux_lemma =>
                      subst hz
                      have hE0 := HZ.out
                      rw [HXA.out] at hE0
                      obtain ⟨e1, e2, tY, hids, hn0⟩ := emb_ten (ys := ysA) HLEN.out IA.out hE0
                      have hXI := HXI.out
                      have hYI := HYI.out
                      rw [HXA.out] at hXI hYI
                      rw [e1] at hXI
                      rw [e2] at hYI
                      have htw := emb_twice (ms := ms) HLEN.out hids hn0
                      obtain ⟨N, hN⟩ : ∃ N, ids.length = N := ⟨_, rfl⟩
                      have hN60 : N ≤ 60 := by omega
                      have hN1 : 1 ≤ N := by omega
                      have hRT := fun a b a2 c d c2 W h1 h3 => Lib.hid (embRows_any a b a2 c d c2 XI YI ((twL ms N).map Int.ofNat) W h1 h3 (by rw [← hXI, ← hYI]; exact tY))
                      have hRD := fun a b a2 c d c2 W h1 h3 => Lib.hid (embRows_any a b a2 c d c2 xsA ysA ((twL ms N).map fun j => ids[j]?.getD 0) W h1 h3 TA.out)
                      rw [hN] at htw
                      have hm1 : embE XI ((twL ms N).map Int.ofNat) = embE xsA ((twL ms N).map fun j => ids[j]?.getD 0) := by rw [← hXI, HXA.out, hN]; exact htw.1
                      have hm2 : embX XI ((twL ms N).map Int.ofNat) = embX xsA ((twL ms N).map fun j => ids[j]?.getD 0) := by rw [← hXI, HXA.out, hN]; exact htw.2.1
                      have hm3 : embY XI YI ((twL ms N).map Int.ofNat) = embY xsA ysA ((twL ms N).map fun j => ids[j]?.getD 0) := by rw [← hXI, ← hYI, HXA.out, hN]; exact htw.2.2
                      have hw2 := embY_word (xs := xsA) (ids := (twL ms N).map fun j => ids[j]?.getD 0) IA.out
                      rw [hm1, hm2, hm3] at hRT
                      obtain ⟨X2, hX2⟩ : ∃ x, embX xsA ((twL ms N).map fun j => ids[j]?.getD 0) = x := ⟨_, rfl⟩
                      obtain ⟨Y2, hY2⟩ : ∃ x, embY xsA ysA ((twL ms N).map fun j => ids[j]?.getD 0) = x := ⟨_, rfl⟩
                      obtain ⟨Z2, hZ2⟩ : ∃ x, embE xsA ((twL ms N).map fun j => ids[j]?.getD 0) = x := ⟨_, rfl⟩
                      rw [hX2, hY2, hZ2] at hRT hRD
                      rw [hY2] at hw2
                      have htl : (twL ms N).length = ms.length := by simp [twL]
                      simp only [List.length_map, htl] at hRT hRD
                      have WY2 := Lib.hid hw2
                      have HIDS := Lib.hid hids
                      have HN := Lib.hid hN
                      have hnn : ¬ N = 0 := by omega
                      have hEq2 := fun a b a2 b2 c d c2 d2 W h1 h2 h3 h4 => Lib.hid (eqTensor_any a b a2 b2 c d c2 d2 X2 Y2 X2 Y2 W h1 h2 h3 h4)
                      simp only [decide_true, Bool.and_self] at hEq2
                      clear hE0 e1 e2 tY hids hn0 hXI hYI htw hm1 hm2 hm3 hX2 hY2 hZ2 htl hw2 hN hEq HXI HYI HZ
                      have hzt : ((0 : Int) == 0) = true := rfl
                      rw [hzt]
                      clear hzt
                      go_upto_region 20 with fail
                      have E0 := Lib.hid E
                      clear E
                      go_wp2
                      go_loopw [12, 13, 14] (fun s12 s13 s14 wr => ∃ i : Nat, i ≤ ms.length ∧ s14 = .int .i64 i ∧ Hid (wr.ownsRow W18.heap.size 3 1 s12 i (((twL (ms.take i) N).map Int.ofNat).map (Value.int .i64))) ∧ Hid (wr.ownsRow W18.heap.size 3 1 s13 i (((twL (ms.take i) N).map fun j => ids[j]?.getD 0).map (Value.int .i64))) ∧ Apart s12 s13 ∧ Hid (Below W18.heap.size W18 wr)) (fun _ _ s14 _ => ms.length - (intOf s14).toNat)
                      case atStart => exact ⟨0, Nat.zero_le _, rfl, Lib.hid (World.ownsRow_nil _ _ _ _), Lib.hid (World.ownsRow_nil _ _ _ _), .inl rfl, Lib.hid (Below.refl _ _)⟩
                      case round =>
                        obtain ⟨i, hi, rfl, HO, HO2, hap, HBB⟩ := hrel
                        obtain ⟨wi, rfl⟩ : ∃ wi : World, wi = wr := ⟨_, rfl⟩
                        have E := E0.out.next HBB.out
                        have hszi := HBB.out.size
                        by_cases hil : i < ms.length
                        · have hp3 := E.cellN 7 rfl
                          obtain ⟨bM, oM, eM, lM, cm⟩ := (E.tenN 3 rfl).da.cell i hil
                          have hmw := (E.tenN 3 rfl).da.wf (ms[i]?.getD 0) (by rw [List.getElem?_eq_getElem hil]; exact List.getElem_mem hil)
                          obtain ⟨m, hm0⟩ : ∃ m, ms[i]?.getD 0 = m := ⟨_, rfl⟩
                          rw [hm0] at cm hmw
                          have hsn := twL_snoc ms N i hil
                          rw [hm0] at hsn
                          obtain ⟨hmw0, hmw1⟩ := wf_i64_iff.1 hmw
                          have hnl : (N : Int) = (ids.length : Int) := by rw [HN.out]
                          have hwi := fun w => Lib.hid (within0_any m (ids.length : Int) w ⟨hmw0, hmw1⟩ (by omega) (by omega))
                          have hwb := withinN_bound m (ids.length : Int) (by omega)
                          rw [hnl] at hsn
                          obtain ⟨q, hq⟩ : ∃ q : Nat, withinN m (ids.length : Int) = (q : Int) := ⟨(withinN m ids.length).toNat, by omega⟩
                          rw [hq] at hwi hwb hsn
                          rw [← hnl] at hwb
                          rw [Int.toNat_natCast] at hsn
                          have hqN : q < N := by omega
                          subst eM
                          have CM := Lib.hid cm
                          have HSN := Lib.hid hsn
                          have HAP := Lib.hid hap
                          clear cm hm0 hmw hsn hwb hq hap hnl
                          obtain ⟨bQ, oQ, eQ, lQ, cq⟩ := (E.tenN 3 rfl).sh.cell q (by rw [HN.out]; exact hqN)
                          subst eQ
                          have CQ := Lib.hid cq
                          clear cq
                          go_upto_region 23 with fail
                          refine wp_region_parts2 (w := wi) 9 1 none [] [(fun u _ => u = .pointer (some ⟨wo.heap.size, 3, none⟩)), (fun u _ => u = .slice (some ⟨bM, oM, none⟩) ms.length cM), (fun u _ => u = .int .i64 i), (fun u _ => u = .pointer (some ⟨bM, oM + i, none⟩)), (fun u _ => u = .int .i64 m), (fun u _ => u = .pointer (some ⟨wo.heap.size, 2, none⟩)), (fun u _ => u = .slice (some ⟨bQ, oQ, none⟩) ids.length cI), (fun u _ => u = .int .i64 ids.length), (fun u _ => u = .int .i64 q)] [some 102, some 103, some 104, some 105, some 106, some 107, some 108, some 109, some 110, some 15] #[true, true, true, true, true, true, true, true, true, false] #[true, true, true, true, true, true, true, true, true, false] (by kernel_rfl) rfl (by kernel_rfl) (by kernel_rfl) rfl (by kernel_rfl) (by kernel_rfl) (.cons (carries_eq _) (.cons (carries_eq _) (.cons (carries_eq _) (.cons (carries_eq _) (.cons (carries_eq _) (.cons (carries_eq _) (.cons (carries_eq _) (.cons (carries_eq _) (.cons (carries_eq _) .nil))))))))) (fun vs b hvl hvb => ?_)
                          obtain ⟨x0, x1, x2, x3, x4, x5, x6, x7, x8, x9, rfl⟩ : ∃ x0 x1 x2 x3 x4 x5 x6 x7 x8 x9, vs = [x0, x1, x2, x3, x4, x5, x6, x7, x8, x9] := lst10 hvl
                          clear hvl
                          simp only [putAll, Act.put, List.setIfInBounds_toArray, List.set_cons_zero, List.set_cons_succ] at hvb
                          subst hvb
                          refine ⟨(.snoc (.snoc (.snoc (.snoc (.snoc (.snoc (.snoc (.snoc (.snoc .zero (PartOb.intro (d := (some 102)) (r := fun u _ => u = .pointer (some ⟨wo.heap.size, 3, none⟩)) rfl rfl rfl rfl ?po23x0)) (PartOb.intro (d := (some 103)) (r := fun u _ => u = .slice (some ⟨bM, oM, none⟩) ms.length cM) rfl rfl rfl rfl ?po23x1)) (PartOb.intro (d := (some 104)) (r := fun u _ => u = .int .i64 i) rfl rfl rfl rfl ?po23x2)) (PartOb.intro (d := (some 105)) (r := fun u _ => u = .pointer (some ⟨bM, oM + i, none⟩)) rfl rfl rfl rfl ?po23x3)) (PartOb.intro (d := (some 106)) (r := fun u _ => u = .int .i64 m) rfl rfl rfl rfl ?po23x4)) (PartOb.intro (d := (some 107)) (r := fun u _ => u = .pointer (some ⟨wo.heap.size, 2, none⟩)) rfl rfl rfl rfl ?po23x5)) (PartOb.intro (d := (some 108)) (r := fun u _ => u = .slice (some ⟨bQ, oQ, none⟩) ids.length cI) rfl rfl rfl rfl ?po23x6)) (PartOb.intro (d := (some 109)) (r := fun u _ => u = .int .i64 ids.length) rfl rfl rfl rfl ?po23x7)) (PartOb.intro (d := (some 110)) (r := fun u _ => u = .int .i64 q) rfl rfl rfl rfl ?po23x8)), ?pend23, ?pfl23⟩
                          case po23x0 =>
                            intro w1 hb1 hd KK hK
                            clear hd
                            simp only [Act.put, List.setIfInBounds_toArray, List.set_cons_zero, List.set_cons_succ] at hK
                            go_simp
                            first | exact hK.out _ _ (Below.refl _ _) rfl | (have hk := hK.out _ _ (Below.refl _ _) rfl; revert hk; go_simp)
                          case po23x1 =>
                            intro w1 hb1 hd KK hK
                            have d0 : x0 = .pointer (some ⟨wo.heap.size, 3, none⟩) := hd 0 (by kernel_rfl)
                            clear hd
                            subst d0
                            have hc := (E.next hb1).cellN 7 rfl
                            simp only [Act.put, List.setIfInBounds_toArray, List.set_cons_zero, List.set_cons_succ] at hK
                            go_simp
                            first | exact hK.out _ _ (Below.refl _ _) rfl | (have hk := hK.out _ _ (Below.refl _ _) rfl; revert hk; go_simp)
                          case po23x2 =>
                            intro w1 hb1 hd KK hK
                            clear hd
                            simp only [Act.put, List.setIfInBounds_toArray, List.set_cons_zero, List.set_cons_succ] at hK
                            go_simp
                            first | exact hK.out _ _ (Below.refl _ _) rfl | (have hk := hK.out _ _ (Below.refl _ _) rfl; revert hk; go_simp)
                          case po23x3 =>
                            intro w1 hb1 hd KK hK
                            have d1 : x1 = .slice (some ⟨bM, oM, none⟩) ms.length cM := hd 1 (by kernel_rfl)
                            have d2 : x2 = .int .i64 i := hd 2 (by kernel_rfl)
                            clear hd
                            subst d1
                            subst d2
                            simp only [Act.put, List.setIfInBounds_toArray, List.set_cons_zero, List.set_cons_succ] at hK
                            go_simp
                            first | exact hK.out _ _ (Below.refl _ _) rfl | (have hk := hK.out _ _ (Below.refl _ _) rfl; revert hk; go_simp)
                          case po23x4 =>
                            intro w1 hb1 hd KK hK
                            have d3 : x3 = .pointer (some ⟨bM, oM + i, none⟩) := hd 3 (by kernel_rfl)
                            clear hd
                            subst d3
                            have hc := (hb1.cell (p := ⟨bM, oM + i, none⟩) lM).trans CM.out
                            simp only [Act.put, List.setIfInBounds_toArray, List.set_cons_zero, List.set_cons_succ] at hK
                            go_simp
                            first | exact hK.out _ _ (Below.refl _ _) rfl | (have hk := hK.out _ _ (Below.refl _ _) rfl; revert hk; go_simp)
                          case po23x5 =>
                            intro w1 hb1 hd KK hK
                            clear hd
                            simp only [Act.put, List.setIfInBounds_toArray, List.set_cons_zero, List.set_cons_succ] at hK
                            go_simp
                            first | exact hK.out _ _ (Below.refl _ _) rfl | (have hk := hK.out _ _ (Below.refl _ _) rfl; revert hk; go_simp)
                          case po23x6 =>
                            intro w1 hb1 hd KK hK
                            have d5 : x5 = .pointer (some ⟨wo.heap.size, 2, none⟩) := hd 5 (by kernel_rfl)
                            clear hd
                            subst d5
                            have hc := (E.next hb1).cellN 6 rfl
                            simp only [Act.put, List.setIfInBounds_toArray, List.set_cons_zero, List.set_cons_succ] at hK
                            go_simp
                            first | exact hK.out _ _ (Below.refl _ _) rfl | (have hk := hK.out _ _ (Below.refl _ _) rfl; revert hk; go_simp)
                          case po23x7 =>
                            intro w1 hb1 hd KK hK
                            have d6 : x6 = .slice (some ⟨bQ, oQ, none⟩) ids.length cI := hd 6 (by kernel_rfl)
                            clear hd
                            subst d6
                            simp only [Act.put, List.setIfInBounds_toArray, List.set_cons_zero, List.set_cons_succ] at hK
                            go_simp
                            first | exact hK.out _ _ (Below.refl _ _) rfl | (have hk := hK.out _ _ (Below.refl _ _) rfl; revert hk; go_simp)
                          case po23x8 =>
                            intro w1 hb1 hd KK hK
                            have d4 : x4 = .int .i64 m := hd 4 (by kernel_rfl)
                            have d7 : x7 = .int .i64 ids.length := hd 7 (by kernel_rfl)
                            clear hd
                            subst d4
                            subst d7
                            simp only [Act.put, List.setIfInBounds_toArray, List.set_cons_zero, List.set_cons_succ] at hK
                            go_simp
                            go_at_call 11
                            refine (hwi _).out.mono ?_
                            rintro e w2 ⟨rfl, rfl⟩
                            (try go_wp2_with fail)
                            first | exact hK.out _ _ (Below.refl _ _) rfl | (have hk := hK.out _ _ (Below.refl _ _) rfl; revert hk; go_simp)
                          case pfl23 => (intro f hf; cases hf)
                          case pend23 =>
                          intro w1 hb1 hR hD
                          have d0 : x0 = .pointer (some ⟨wo.heap.size, 3, none⟩) := hR 0 (by decide)
                          have d1 : x1 = .slice (some ⟨bM, oM, none⟩) ms.length cM := hR 1 (by decide)
                          have d2 : x2 = .int .i64 i := hR 2 (by decide)
                          have d3 : x3 = .pointer (some ⟨bM, oM + i, none⟩) := hR 3 (by decide)
                          have d4 : x4 = .int .i64 m := hR 4 (by decide)
                          have d5 : x5 = .pointer (some ⟨wo.heap.size, 2, none⟩) := hR 5 (by decide)
                          have d6 : x6 = .slice (some ⟨bQ, oQ, none⟩) ids.length cI := hR 6 (by decide)
                          have d7 : x7 = .int .i64 ids.length := hR 7 (by decide)
                          have d8 : x8 = .int .i64 q := hR 8 (by decide)
                          clear hR hD
                          subst d0
                          subst d1
                          subst d2
                          subst d3
                          subst d4
                          subst d5
                          subst d6
                          subst d7
                          subst d8
                          refine wpAny_ready (rs := [9]) (by kernel_rfl) (by simp) (AllReady.cons rfl (fun KK hK => ?_) AllReady.nil)
                          go_simp
                          refine hK _ _ ?_
                          clear hK KK
                          try simp only [putAll, Act.put, List.setIfInBounds_toArray, List.set_cons_zero, List.set_cons_succ]
                          refine wpAny_done (by kernel_rfl) ?_ _
                          have HO1 := Lib.hid (own_below HO.out hb1 (Nat.le_refl _))
                          have HO21 := Lib.hid (own_below HO2.out hb1 (Nat.le_refl _))
                          have HB1 := Lib.hid (HBB.out.trans (hb1.mono HBB.out.size))
                          have E1 := E0.out.next HB1.out
                          clear E hp3 HO HO2
                          have hsz1 := HB1.out.size
                          have hcq1 := (hb1.cell (p := ⟨bQ, oQ + q, none⟩) lQ).trans CQ.out
                          have lQ1 : bQ < w1.heap.size := Nat.lt_of_lt_of_le lQ hb1.size
                          clear hb1
                          go_upto_region 25 with (at_builtin; (refine appendI W18.heap.size _ i ((twL (ms.take i) N).map Int.ofNat) (q : Int) _ _ _ rfl rfl rfl HO1.out rfl (by omega) hsz1 ?_); intro v1 w4 hown1 hbel1 hg1 hob1; obtain ⟨hk1, hk2⟩ := apart_append HO21.out HAP.out hg1 hob1; have HO4 := Lib.hid hown1; have HO24 := Lib.hid hk1; have HAP4 := Lib.hid hk2; have HB4 := Lib.hid (hbel1 _ _ (Nat.le_refl _) HB1.out); have hsz4 := HB4.out.size; clear hown1 hbel1 hg1 hob1 hk1 hk2)
                          have E4 := E0.out.next HB4.out
                          have hp2 := E4.cellN 6 rfl
                          obtain ⟨bR, oR, eR, lR, cr⟩ := (E4.tenN 3 rfl).sh.cell q (by rw [HN.out]; exact hqN)
                          cases eR
                          have hqi : (q : Int) < (ids.length : Int) := by rw [HN.out]; omega
                          obtain ⟨iv, hiv⟩ : ∃ x, ids[q]?.getD 0 = x := ⟨_, rfl⟩
                          rw [hiv] at cr
                          have HIV := Lib.hid hiv
                          clear hiv hcq1
                          go_wp2_with (at_builtin; (refine appendI W18.heap.size _ i ((twL (ms.take i) N).map fun j => ids[j]?.getD 0) iv _ _ _ rfl rfl rfl HO24.out rfl (by omega) hsz4 ?_); intro v2 w5 hown1 hbel1 hg1 hob1; obtain ⟨hk1, hk2⟩ := apart_append HO4.out HAP4.out.symm hg1 hob1; have HO5 := Lib.hid hk1; have HO25 := Lib.hid hown1; have HAP5 := Lib.hid hk2.symm; have HB5 := Lib.hid (hbel1 _ _ (Nat.le_refl _) HB4.out); clear hown1 hbel1 hg1 hob1 hk1 hk2)
                          go_roundw
                          case rel =>
                            have hTW : (twL (ms.take (i + 1)) N).map Int.ofNat = (twL (ms.take i) N).map Int.ofNat ++ [(q : Int)] := by rw [HSN.out, List.map_append]; rfl
                            have hID : ((twL (ms.take (i + 1)) N).map fun j => ids[j]?.getD 0) = ((twL (ms.take i) N).map fun j => ids[j]?.getD 0) ++ [iv] := by rw [HSN.out, List.map_append, List.map_singleton, HIV.out]
                            have r1 := HO5.out
                            have r2 := HO25.out
                            rw [← hTW] at r1
                            rw [← hID] at r2
                            have R1 := Lib.hid r1
                            have R2 := Lib.hid r2
                            have hi1 : i + 1 ≤ ms.length := hil
                            clear r1 r2 hTW hID
                            exact ⟨i + 1, hi1, by go_num, R1, R2, HAP5.out, HB5⟩
                          case measure => simp [intOf]; omega
                        · have hie : i = ms.length := by omega
                          have hni : ¬ (i : Int) < (ms.length : Int) := by omega
                          have ho1 := HO.out
                          have ho2 := HO2.out
                          rw [hie, List.take_length] at ho1 ho2
                          have hlt := twL_lt (ms := ms) hN1
                          obtain ⟨aT, cT, he1, hI1⟩ := own_ints ho1 (i64_of (R := N) (by omega) (fun k hk => by
                            obtain ⟨j, hj, rfl⟩ := List.mem_map.1 hk
                            have := hlt j hj
                            show (0 : Int) ≤ (j : Int) ∧ (j : Int) < N
                            omega))
                          obtain ⟨aU, cU, he2, hI2⟩ := own_ints ho2 (i64_of (R := R) (by omega) (fun k hk => by
                            obtain ⟨j, hj, rfl⟩ := List.mem_map.1 hk
                            have := hlt j hj
                            rw [List.getElem?_eq_getElem (by rw [HN.out]; exact this), Option.getD_some]
                            exact HIDS.out _ (List.getElem_mem _)))
                          simp only [List.length_map, show (twL ms N).length = ms.length from by simp [twL]] at he1 he2
                          have hc1 : ms.length ≤ cT ∧ cT ≤ 9223372036854775807 := by rw [he1] at ho1; exact own_cap ho1
                          have hc2 : ms.length ≤ cU ∧ cU ≤ 9223372036854775807 := by rw [he2] at ho2; exact own_cap ho2
                          subst he1 he2
                          have hml : (twL ms N).length = ms.length := by simp [twL]
                          replace E := E.addT (ten_list hI2 (c := cU) (by simp only [List.length_map, hml]; exact hc2))
                          replace E := E.addT (ten_list hI1 (c := cT) (by simp only [List.length_map, hml]; exact hc1))
                          clear ho1 ho2 hI1 hI2 HO HO2 hlt hil hi hap hie hml
                          have p42x := E.cellN 0 rfl
                          have p43x := E.cellN 1 rfl
                          have p44x := E.cellN 4 rfl
                          have p45x := E.cellN 5 rfl
                          have hp3 := E.cellN 7 rfl
                          go_upto_region 26 with fail
                          clear hp3
                          go_upto_region 27 with (first | (go_at_call 8; refine (hRT _ _ _ _ _ _ _ (E.tenN 2 rfl) (E.tenN 0 rfl).sh).out.mono ?_; rintro e w8 ⟨a8, c8, b8, d8, m8, rfl, _, hm, hI, ⟨hcap, hsh⟩, hO, hb⟩; replace E := E.made hb hm hI hcap hO (WY2.out); clear hb hm hI hcap hsh hO; clear p42x p43x p44x p45x))
                          obtain ⟨V8, hV8⟩ : ∃ V : World, w8.alloc (.cells #[.slice a8 X2.length c8, .slice b8 Y2.length d8] 26) = V := ⟨_, rfl⟩
                          replace E := E.box (.slice a8 X2.length c8) (.slice b8 Y2.length d8) 26
                          rw [hV8] at E ⊢
                          clear hV8
                          have p46x := E.cellN 0 rfl
                          have p47x := E.cellN 1 rfl
                          have p48x := E.cellN 6 rfl
                          have p49x := E.cellN 7 rfl
                          go_upto_region 28 with (first | (go_at_call 8; refine (hRD _ _ _ _ _ _ _ (E.tenN 5 rfl) (E.tenN 2 rfl).sh).out.mono ?_; rintro e w9 ⟨a9, c9, b9, d9, m9, rfl, _, hm, hI, ⟨hcap, hsh⟩, hO, hb⟩; replace E := E.made hb hm hI hcap hO (WY2.out); clear hb hm hI hcap hsh hO; clear p46x p47x p48x p49x))
                          obtain ⟨V9, hV9⟩ : ∃ V : World, w9.alloc (.cells #[.slice a9 X2.length c9, .slice b9 Y2.length d9] 26) = V := ⟨_, rfl⟩
                          replace E := E.box (.slice a9 X2.length c9) (.slice b9 Y2.length d9) 26
                          rw [hV9] at E ⊢
                          clear hV9
                          have p50x := E.cellN 2 rfl
                          have p51x := E.cellN 3 rfl
                          have p52x := E.cellN 0 rfl
                          have p53x := E.cellN 1 rfl
                          go_wp2_with (first | (go_at_call 9; refine (num17_any _ _).mono ?_; rintro e w' ⟨rfl, rfl⟩) | (go_at_call 10; refine (hEq2 _ _ _ _ _ _ _ _ _ (E.tenN 1 rfl).sh (E.tenN 1 rfl).da (E.tenN 0 rfl).sh (E.tenN 0 rfl).da).out.mono ?_; rintro e w10 ⟨rfl, hb⟩; replace E := E.next hb; clear p50x p51x p52x p53x; clear hb))
                          go_meet
                          exact ⟨rfl, E.dropN 6 8⟩
                  · as_aux_lemma =>
                      have hzb : (Z == 0) = false := by simp; exact hz
                      go_wp2_with fail
                      go_meet
                      exact ⟨rfl, E.dropN 2 4⟩
                case rest =>
                  obtain ⟨rfl, E1⟩ := hcut
                  clear E
                  have E := E1
                  clear E1
                  obtain ⟨W29, hW29⟩ : ∃ V : World, wc = V := ⟨_, rfl⟩
                  rw [hW29] at E ⊢
                  clear hW29 WI HXI HYI HZ
                  have hmk := make_ints ysA.length (by omega)
                  have p54x := E.cellN 0 rfl
                  have p55x := E.cellN 1 rfl
                  go_upto_region 31 with fail
                  clear p54x p55x
                  have hmr := made_row W29 ysA.length (by omega)
                  obtain ⟨W30, hW30⟩ : ∃ V : World, W29.alloc (.cells (madeCells #[Value.int .i64 0] ysA.length) 3) = V := ⟨_, rfl⟩
                  have b30 : Below W29.heap.size W29 W30 := by rw [← hW30]; exact (Below.refl _ _).alloc (Nat.le_refl _) _
                  have s30 : W30.heap.size = W29.heap.size + 1 := by rw [← hW30]; simp
                  rw [hW30] at hmr ⊢
                  clear hW30 hmk
                  have HMR := Lib.hid hmr
                  have HB30 := Lib.hid b30
                  have E0 := Lib.hid E
                  clear hmr b30 E
                  obtain ⟨Q, hQ⟩ : ∃ Q, W29.heap.size = Q := ⟨_, rfl⟩
                  rw [hQ] at HMR ⊢
                  go_wp2
                  go_loopw [21] (fun s21 wr => ∃ i : Nat, i ≤ ysA.length ∧ s21 = .int .i64 i ∧ Hid (wr.ownsRow Q 3 1 (.slice (some ⟨Q, 0, none⟩) ysA.length ysA.length) ysA.length ((partL onesV ysA.length i).map (Value.int .i64))) ∧ Hid (Below Q W29 wr)) (fun s21 _ => ysA.length - (intOf s21).toNat)
                  case atStart => exact ⟨0, Nat.zero_le _, rfl, HMR, by rw [← hQ]; exact HB30⟩
                  case round =>
                    obtain ⟨i, hi, rfl, HO, HBB⟩ := hrel
                    obtain ⟨wi, rfl⟩ : ∃ wi : World, wi = wr := ⟨_, rfl⟩
                    clear HMR HB30
                    by_cases hil : i < ysA.length
                    · have hil2 : (i : Int) < (ysA.length : Int) := by omega
                      have fc1 := own_cell HO.out hil
                      have fc2 := HO.out.frozenAt i
                      have e5 : ∀ [Inhabited Unit], RowKit.wrap64 (-1 - (i : Int)) = onesV i := by intro _; unfold onesV RowKit.wrap64; omega
                      have e6 : ∀ [Inhabited Unit], IntKind.i64.wrap (-1 - (i : Int)) = onesV i := by intro _; rw [IntWalk.i64_left]; exact e5
                      have HO9 : Hid ((wi.setCell ⟨Q, i, none⟩ (.int .i64 (onesV i))).ownsRow Q 3 1 (.slice (some ⟨Q, 0, none⟩) ysA.length ysA.length) ysA.length ((partL onesV ysA.length (i + 1)).map (Value.int .i64))) := Lib.hid (by
                        have := (HO.out.stored i (.int .i64 (onesV i))).1
                        rwa [map_set, partL_set] at this)
                      have HB9 : Hid (Below Q W29 (wi.setCell ⟨Q, i, none⟩ (.int .i64 (onesV i)))) := Lib.hid (HBB.out.setCell (p := ⟨Q, i, none⟩) (Nat.le_refl _) _)
                      clear HO HBB
                      go_wp2
                      go_roundw
                      case rel => exact ⟨i + 1, by omega, by go_num, HO9, HB9⟩
                      case measure => simp [intOf]; omega
                    · have hie : i = ysA.length := by omega
                      rw [hie] at HO
                      have hni : ¬ (i : Int) < (ysA.length : Int) := by omega
                      have ho := HO.out
                      rw [partL_full] at ho
                      obtain ⟨ones, hon⟩ : ∃ l, (List.range ysA.length).map onesV = l := ⟨_, rfl⟩
                      have hol : ones.length = ysA.length := by rw [← hon]; simp
                      rw [hon] at ho
                      obtain ⟨aO, cO, he, hIO⟩ := own_ints ho (by rw [← hon]; intro k hk; obtain ⟨j, hj, rfl⟩ := List.mem_map.1 hk; have := List.mem_range.1 hj; exact wf_i64_iff.2 ⟨by unfold onesV; omega, by unfold onesV; omega⟩)
                      have hk := keep_none (ms := ones) (ys := ysA) (fun j hj => by rw [← hon]; simp [hj, onesV]; omega)
                      have hd := drop_one (xs := xsA) f IA.out hol
                      rw [hk] at hd
                      have hDA : ∀ a b am c d cm W, Ten W W.heap.size a c b d xsA ysA → Ints .i64 W W.heap.size am ones → Hid (Calls Try.prog 12 #[.agg #[.slice a xsA.length c, .slice b ysA.length d], .slice am ysA.length cm, .int .i64 (2 ^ f), .int .i64 f] W (RetTen W xsA ysA 0)) := by
                        intro a b am c d cm W h h2
                        have h3 := drop_any a b am c d cm f xsA ysA ones (2 ^ f) W h h2 TA.out (pow_word hf1) hf0 hf1
                        rw [hd.1, hd.2.1, hd.2.2, hol] at h3
                        exact Lib.hid h3
                      have e3 : ∀ [Inhabited Unit], RowKit.wrap64 ((2 : Int) ^ f) = 2 ^ f := by
                        intro _
                        have h1 := Nat.pow_le_pow_right (show 0 < 2 by decide) hf1
                        rw [← castPow]
                        exact wrap_nat' _ (by omega)
                      have e4 : ∀ [Inhabited Unit], IntKind.i64.wrap ((2 : Int) ^ f) = 2 ^ f := by
                        intro _
                        rw [IntWalk.i64_left]
                        exact e3
                      injection he with he1 he2 he3
                      subst he1 he3
                      have E := E0.out.next (W' := wi) (by rw [hQ]; exact HBB.out)
                      replace E := E.addT (ten_list hIO (c := ysA.length) ⟨by omega, by omega⟩)
                      clear ho hIO HO hk hd hon hol hil he2 hi hie
                      go_upto_region 35 with fail
                      go_cut [22, 23] from 163 to 172 (fun s6 s7 wx => ∃ (Qs : Nat) (aS : Option Addr) (cS : Nat) (bS : Option Addr) (dS : Nat), s6 = .pointer (some ⟨Qs, 0, none⟩) ∧ s7 = .int .i64 0 ∧ TEnv wo.heap.size wo wx [⟨aS, cS, bS, dS, xsA, ysA⟩, ⟨some ⟨Q, 0, none⟩, ysA.length, none, 0, ones, []⟩, ⟨some ⟨bx, ox, none⟩, cA, bA, dA, xsA, ysA⟩, ⟨aI, cI, aM, cM, ids, ms⟩] [(⟨Qs, 0, none⟩, .slice aS xsA.length cS), (⟨Qs, 1, none⟩, .slice bS ysA.length dS), (⟨wo.heap.size, 0, none⟩, .slice (some ⟨bx, ox, none⟩) xsA.length cA), (⟨wo.heap.size, 1, none⟩, .slice bA ysA.length dA), (⟨wo.heap.size, 2, none⟩, .slice aI ids.length cI), (⟨wo.heap.size, 3, none⟩, .slice aM ms.length cM), (⟨wo.heap.size, 4, none⟩, .int .i64 X), (⟨wo.heap.size, 5, none⟩, .int .i64 F)])
                      case first =>
                        as_aux_lemma =>
                          refine wp_region_parts2 (w := wi) 11 2 (some 9) [] [(fun u _ => u = .pointer (some ⟨wo.heap.size, 0, none⟩)), (fun u _ => u = .agg #[.slice (some ⟨bx, ox, none⟩) xsA.length cA, .slice bA ysA.length dA]), (fun u _ => u = .slice (some ⟨Q, 0, none⟩) ysA.length ysA.length), (fun u _ => u = .int .i64 f), (fun u _ => u = .int .i64 (2 ^ f)), (fun u _ => u = .int .i64 f), ((IsT xsA ysA 0)), ((IsT xsA ysA 0)), ((IsA xsA ysA)), (fun u _ => u = .int .i64 0), ((IsTB wi))] [some 164, some 165, some 166, some 167, some 168, some 169, some 170, some 163, some 171, some 172, some 22, none, some 23] #[true, true, true, true, true, true, true, true, true, true, true, false, false] #[true, true, true, true, true, true, true, true, true, false, true, false, false] (by kernel_rfl) rfl (by kernel_rfl) (by kernel_rfl) rfl (by kernel_rfl) (by kernel_rfl) (.cons (carries_eq _) (.cons (carries_eq _) (.cons (carries_eq _) (.cons (carries_eq _) (.cons (carries_eq _) (.cons (carries_eq _) (.cons (isT_carries _ _ _) (.cons (isT_carries _ _ _) (.cons (isA_carries _ _) (.cons (carries_eq _) (.cons (isTB_carries _) .nil))))))))))) (fun vs b hvl hvb => ?_)
                          obtain ⟨x0, x1, x2, x3, x4, x5, x6, x7, x8, x9, x10, x11, x12, rfl⟩ : ∃ x0 x1 x2 x3 x4 x5 x6 x7 x8 x9 x10 x11 x12, vs = [x0, x1, x2, x3, x4, x5, x6, x7, x8, x9, x10, x11, x12] := lst13 hvl
                          clear hvl
                          simp only [putAll, Act.put, List.setIfInBounds_toArray, List.set_cons_zero, List.set_cons_succ] at hvb
                          subst hvb
                          refine ⟨(.snoc (.snoc (.snoc (.snoc (.snoc (.snoc (.snoc (.snoc (.snoc (.snoc (.snoc .zero (PartOb.intro (d := (some 164)) (r := fun u _ => u = .pointer (some ⟨wo.heap.size, 0, none⟩)) rfl rfl rfl rfl ?po35x0)) (PartOb.intro (d := (some 165)) (r := fun u _ => u = .agg #[.slice (some ⟨bx, ox, none⟩) xsA.length cA, .slice bA ysA.length dA]) rfl rfl rfl rfl ?po35x1)) (PartOb.intro (d := (some 166)) (r := fun u _ => u = .slice (some ⟨Q, 0, none⟩) ysA.length ysA.length) rfl rfl rfl rfl ?po35x2)) (PartOb.intro (d := (some 167)) (r := fun u _ => u = .int .i64 f) rfl rfl rfl rfl ?po35x3)) (PartOb.intro (d := (some 168)) (r := fun u _ => u = .int .i64 (2 ^ f)) rfl rfl rfl rfl ?po35x4)) (PartOb.intro (d := (some 169)) (r := fun u _ => u = .int .i64 f) rfl rfl rfl rfl ?po35x5)) (PartOb.intro (d := (some 170)) (r := (IsT xsA ysA 0)) rfl rfl rfl rfl ?po35x6)) (PartOb.intro (d := (some 163)) (r := (IsT xsA ysA 0)) rfl rfl rfl rfl ?po35x7)) (PartOb.intro (d := (some 171)) (r := (IsA xsA ysA)) rfl rfl rfl rfl ?po35x8)) (PartOb.intro (d := (some 172)) (r := fun u _ => u = .int .i64 0) rfl rfl rfl rfl ?po35x9)) (PartOb.intro (d := (some 22)) (r := (IsTB wi)) rfl rfl rfl rfl ?po35x10)), ?pend35, ?pfl35⟩
                          case po35x0 =>
                            intro w1 hb1 hd KK hK
                            clear hd
                            simp only [Act.put, List.setIfInBounds_toArray, List.set_cons_zero, List.set_cons_succ] at hK
                            go_simp
                            first | exact hK.out _ _ (Below.refl _ _) rfl | (have hk := hK.out _ _ (Below.refl _ _) rfl; revert hk; go_simp)
                          case po35x1 =>
                            intro w1 hb1 hd KK hK
                            have d0 : x0 = .pointer (some ⟨wo.heap.size, 0, none⟩) := hd 0 (by kernel_rfl)
                            clear hd
                            subst d0
                            have hc0 := (E.next hb1).cellN 0 rfl
                            have hc1 := (E.next hb1).cellN 1 rfl
                            simp only [Act.put, List.setIfInBounds_toArray, List.set_cons_zero, List.set_cons_succ] at hK
                            go_simp
                            first | exact hK.out _ _ (Below.refl _ _) rfl | (have hk := hK.out _ _ (Below.refl _ _) rfl; revert hk; go_simp)
                          case po35x2 =>
                            intro w1 hb1 hd KK hK
                            clear hd
                            simp only [Act.put, List.setIfInBounds_toArray, List.set_cons_zero, List.set_cons_succ] at hK
                            go_simp
                            first | exact hK.out _ _ (Below.refl _ _) rfl | (have hk := hK.out _ _ (Below.refl _ _) rfl; revert hk; go_simp)
                          case po35x3 =>
                            intro w1 hb1 hd KK hK
                            clear hd
                            simp only [Act.put, List.setIfInBounds_toArray, List.set_cons_zero, List.set_cons_succ] at hK
                            go_simp
                            first | exact hK.out _ _ (Below.refl _ _) rfl | (have hk := hK.out _ _ (Below.refl _ _) rfl; revert hk; go_simp)
                          case po35x4 =>
                            intro w1 hb1 hd KK hK
                            have d3 : x3 = .int .i64 f := hd 3 (by kernel_rfl)
                            clear hd
                            subst d3
                            simp only [Act.put, List.setIfInBounds_toArray, List.set_cons_zero, List.set_cons_succ] at hK
                            go_simp
                            first | exact hK.out _ _ (Below.refl _ _) rfl | (have hk := hK.out _ _ (Below.refl _ _) rfl; revert hk; go_simp)
                          case po35x5 =>
                            intro w1 hb1 hd KK hK
                            clear hd
                            simp only [Act.put, List.setIfInBounds_toArray, List.set_cons_zero, List.set_cons_succ] at hK
                            go_simp
                            first | exact hK.out _ _ (Below.refl _ _) rfl | (have hk := hK.out _ _ (Below.refl _ _) rfl; revert hk; go_simp)
                          case po35x6 =>
                            intro w1 hb1 hd KK hK
                            have d1 : x1 = .agg #[.slice (some ⟨bx, ox, none⟩) xsA.length cA, .slice bA ysA.length dA] := hd 1 (by kernel_rfl)
                            have d2 : x2 = .slice (some ⟨Q, 0, none⟩) ysA.length ysA.length := hd 2 (by kernel_rfl)
                            have d4 : x4 = .int .i64 (2 ^ f) := hd 4 (by kernel_rfl)
                            have d5 : x5 = .int .i64 f := hd 5 (by kernel_rfl)
                            clear hd
                            subst d1
                            subst d2
                            subst d4
                            subst d5
                            simp only [Act.put, List.setIfInBounds_toArray, List.set_cons_zero, List.set_cons_succ] at hK
                            go_simp
                            go_at_call 12
                            refine (hDA _ _ _ _ _ _ _ ((E.next hb1).tenN 1 rfl) ((E.next hb1).tenN 0 rfl).sh).out.mono ?_
                            intro e w2 hr
                            obtain ⟨a2, c2, b2, d2, rfl, hT2, hb2⟩ := retTen_is hr IA.out
                            (try go_wp2_with fail)
                            first | exact hK.out _ _ hb2 ⟨a2, c2, b2, d2, rfl, hT2⟩ | (have hk := hK.out _ _ hb2 ⟨a2, c2, b2, d2, rfl, hT2⟩; revert hk; go_simp)
                          case po35x7 =>
                            intro w1 hb1 hd KK hK
                            have d6 : (IsT xsA ysA 0) x6 w1 := hd 6 (by kernel_rfl)
                            clear hd
                            obtain ⟨a6y, c6y, b6y, d6y, rfl, hT6⟩ := d6
                            simp only [Act.put, List.setIfInBounds_toArray, List.set_cons_zero, List.set_cons_succ] at hK
                            go_simp
                            first | exact hK.out _ _ (Below.refl _ _) ⟨a6y, c6y, b6y, d6y, rfl, hT6⟩ | (have hk := hK.out _ _ (Below.refl _ _) ⟨a6y, c6y, b6y, d6y, rfl, hT6⟩; revert hk; go_simp)
                          case po35x8 =>
                            intro w1 hb1 hd KK hK
                            have d7 : (IsT xsA ysA 0) x7 w1 := hd 7 (by kernel_rfl)
                            clear hd
                            obtain ⟨a7y, c7y, b7y, d7y, rfl, hT7⟩ := d7
                            simp only [Act.put, List.setIfInBounds_toArray, List.set_cons_zero, List.set_cons_succ] at hK
                            go_simp
                            first | exact hK.out _ _ (Below.refl _ _) ⟨a7y, c7y, b7y, d7y, rfl, hT7⟩ | (have hk := hK.out _ _ (Below.refl _ _) ⟨a7y, c7y, b7y, d7y, rfl, hT7⟩; revert hk; go_simp)
                          case po35x9 =>
                            intro w1 hb1 hd KK hK
                            have d7 : (IsT xsA ysA 0) x7 w1 := hd 7 (by kernel_rfl)
                            clear hd
                            obtain ⟨a7y, c7y, b7y, d7y, rfl, hT7⟩ := d7
                            simp only [Act.put, List.setIfInBounds_toArray, List.set_cons_zero, List.set_cons_succ] at hK
                            go_simp
                            first | exact hK.out _ _ (Below.refl _ _) rfl | (have hk := hK.out _ _ (Below.refl _ _) rfl; revert hk; go_simp)
                          case po35x10 =>
                            intro w1 hb1 hd KK hK
                            clear hd
                            simp only [Act.put, List.setIfInBounds_toArray, List.set_cons_zero, List.set_cons_succ] at hK
                            go_simp
                            first | exact hK.out _ _ ((Below.refl _ _).alloc (Nat.le_refl _) _) ⟨w1.heap.size, rfl, hb1.size, by simp, by constructor <;> go_simp⟩ | (have hk := hK.out _ _ ((Below.refl _ _).alloc (Nat.le_refl _) _) ⟨w1.heap.size, rfl, hb1.size, by simp, by constructor <;> go_simp⟩; revert hk; go_simp)
                          case pend35 =>
                            intro w1 hb1 hR hD
                            have d0 : x0 = .pointer (some ⟨wo.heap.size, 0, none⟩) := hR 0 (by decide)
                            have d1 : x1 = .agg #[.slice (some ⟨bx, ox, none⟩) xsA.length cA, .slice bA ysA.length dA] := hR 1 (by decide)
                            have d2 : x2 = .slice (some ⟨Q, 0, none⟩) ysA.length ysA.length := hR 2 (by decide)
                            have d3 : x3 = .int .i64 f := hR 3 (by decide)
                            have d4 : x4 = .int .i64 (2 ^ f) := hR 4 (by decide)
                            have d5 : x5 = .int .i64 f := hR 5 (by decide)
                            have d6 : (IsT xsA ysA 0) x6 w1 := hR 6 (by decide)
                            have d7 : (IsT xsA ysA 0) x7 w1 := hR 7 (by decide)
                            have d8 : (IsA xsA ysA) x8 w1 := hR 8 (by decide)
                            have d9 : x9 = .int .i64 0 := hR 9 (by decide)
                            have d10 : (IsTB wi) x10 w1 := hR 10 (by decide)
                            clear hR hD
                            subst d0
                            subst d1
                            subst d2
                            subst d3
                            subst d4
                            subst d5
                            obtain ⟨a6y, c6y, b6y, d6y, rfl, hT6⟩ := d6
                            obtain ⟨a7y, c7y, b7y, d7y, rfl, hT7⟩ := d7
                            obtain ⟨a8y, c8y, b8y, d8y, rfl, hT8⟩ := d8
                            subst d9
                            obtain ⟨q10, rfl, hle10, hlt10, hX10⟩ := d10
                            refine wpAny_ready (rs := [11]) (by kernel_rfl) (by simp) (AllReady.cons rfl (fun KK hK => ?_) AllReady.nil)
                            have hE2 := E.boxed hb1 hT8 hX10 hle10 (.slice a8y xsA.length c8y) (.slice b8y ysA.length d8y)
                            obtain ⟨f0, f1, f2, f3⟩ := hX10
                            go_simp
                            refine hK _ _ ?_
                            clear hK KK
                            try simp only [putAll, Act.put, List.setIfInBounds_toArray, List.set_cons_zero, List.set_cons_succ]
                            refine wpAny_ready (rs := [12]) (by kernel_rfl) (by simp) (AllReady.cons rfl (fun KK hK => ?_) AllReady.nil)
                            go_simp
                            refine hK _ _ ?_
                            clear hK KK
                            try simp only [putAll, Act.put, List.setIfInBounds_toArray, List.set_cons_zero, List.set_cons_succ]
                            refine wpAny_done (by kernel_rfl) ?_ _
                            go_wp2
                            go_meet
                            exact ⟨q10, a8y, c8y, b8y, d8y, rfl, rfl, hE2⟩
                          case pfl35 =>
                            intro f hf hfn w1 hb1 hR hD
                            injection hf with hf
                            subst hf
                            have d0 : x0 = .pointer (some ⟨wo.heap.size, 0, none⟩) := hR 0 (by decide) (by decide)
                            have d1 : x1 = .agg #[.slice (some ⟨bx, ox, none⟩) xsA.length cA, .slice bA ysA.length dA] := hR 1 (by decide) (by decide)
                            have d2 : x2 = .slice (some ⟨Q, 0, none⟩) ysA.length ysA.length := hR 2 (by decide) (by decide)
                            have d3 : x3 = .int .i64 f := hR 3 (by decide) (by decide)
                            have d4 : x4 = .int .i64 (2 ^ f) := hR 4 (by decide) (by decide)
                            have d5 : x5 = .int .i64 f := hR 5 (by decide) (by decide)
                            have d6 : (IsT xsA ysA 0) x6 w1 := hR 6 (by decide) (by decide)
                            have d7 : (IsT xsA ysA 0) x7 w1 := hR 7 (by decide) (by decide)
                            have d8 : (IsA xsA ysA) x8 w1 := hR 8 (by decide) (by decide)
                            have d10 : (IsTB wi) x10 w1 := hR 10 (by decide) (by decide)
                            clear hR hD
                            subst d0
                            subst d1
                            subst d2
                            subst d3
                            subst d4
                            subst d5
                            obtain ⟨a6y, c6y, b6y, d6y, rfl, hT6⟩ := d6
                            obtain ⟨a7y, c7y, b7y, d7y, rfl, hT7⟩ := d7
                            obtain ⟨a8y, c8y, b8y, d8y, rfl, hT8⟩ := d8
                            obtain ⟨q10, rfl, hle10, hlt10, hX10⟩ := d10
                            refine wpAny_take (i := 9) (v := .int .i64 0) rfl (by kernel_rfl) (by kernel_rfl) (by kernel_rfl) (fun _ _ _ h => h) (.inl ⟨by rfl, fun w => by go_simp⟩) ?_
                            try simp only [putAll, Act.put, List.setIfInBounds_toArray, List.set_cons_zero, List.set_cons_succ]
                            refine wpAny_ready (rs := [11]) (by kernel_rfl) (by simp) (AllReady.cons rfl (fun KK hK => ?_) AllReady.nil)
                            have hE2 := E.boxed hb1 hT8 hX10 hle10 (.slice a8y xsA.length c8y) (.slice b8y ysA.length d8y)
                            obtain ⟨f0, f1, f2, f3⟩ := hX10
                            go_simp
                            refine hK _ _ ?_
                            clear hK KK
                            try simp only [putAll, Act.put, List.setIfInBounds_toArray, List.set_cons_zero, List.set_cons_succ]
                            refine wpAny_ready (rs := [12]) (by kernel_rfl) (by simp) (AllReady.cons rfl (fun KK hK => ?_) AllReady.nil)
                            go_simp
                            refine hK _ _ ?_
                            clear hK KK
                            try simp only [putAll, Act.put, List.setIfInBounds_toArray, List.set_cons_zero, List.set_cons_succ]
                            refine wpAny_done (by kernel_rfl) ?_ _
                            go_wp2
                            go_meet
                            exact ⟨q10, a8y, c8y, b8y, d8y, rfl, rfl, hE2⟩
                      case rest =>
                        obtain ⟨Qs, aS, cS, bS, dS, rfl, rfl, E1⟩ := hcut
                        clear E
                        have E := E1
                        clear E1
                        obtain ⟨W36, hW36⟩ : ∃ V : World, wc = V := ⟨_, rfl⟩
                        rw [hW36] at E ⊢
                        clear hW36 hDA
                        have p56x := E.cellN 0 rfl
                        have p57x := E.cellN 1 rfl
                        have p58x := E.cellN 2 rfl
                        have p59x := E.cellN 3 rfl
                        go_wp2_with (first | (go_at_call 9; refine (num17_any _ _).mono ?_; rintro e w' ⟨rfl, rfl⟩) | (go_at_call 10; refine (hEq _ _ _ _ _ _ _ _ _ (E.tenN 0 rfl).sh (E.tenN 0 rfl).da (E.tenN 2 rfl).sh (E.tenN 2 rfl).da).out.mono ?_; rintro e w12 ⟨rfl, hb⟩; replace E := E.next hb; clear p56x p57x p58x p59x; clear hb))
                        go_roundw
                        case rel => exact ⟨k + 1, by omega, by go_num, HB.out.trans (E.bel.mono hsz)⟩
                        case measure => simp [intOf]; omega
          · have hlb : ((xsA.length : Int) != 2) = true := by simp; omega
            as_aux_lemma =>
              have HL := Lib.hid h2
              clear h2
              have p60x := E.cellN 0 rfl
              have p61x := E.cellN 1 rfl
              have p62x := E.cellN 2 rfl
              have p63x := E.cellN 3 rfl
              have p64x := E.cellN 4 rfl
              have p65x := E.cellN 5 rfl
              go_wp2_with (go_at_call 6; refine (tenMay_any _ _ _ _ _ _ _ (E.tenN 0 rfl).sh (E.tenN 0 rfl).da).mono ?_; rintro e w2 ⟨he, hb⟩; rw [tA] at he; subst he; replace E := E.next hb; clear p60x p61x p62x p63x p64x p65x; have p66x := E.cellN 0 rfl; have p67x := E.cellN 1 rfl; have p68x := E.cellN 2 rfl; have p69x := E.cellN 3 rfl; have p70x := E.cellN 4 rfl; have p71x := E.cellN 5 rfl; clear hb)
              go_roundw
              case rel => exact ⟨k + 1, by omega, by go_num, HB.out.trans (E.bel.mono hsz)⟩
              case measure => simp [intOf]; omega
    · -- the end
      have HB := Lib.hid hbel
      have hsz := hbel.size
      have HW := Lib.hid (wakes17_any wo)
      clear hbel h
      by_cases hlt : k < n
      · have h20 : ¬ k < 10 := fun h => hend ⟨hlt, h⟩
        clear hend
        go_wp2_with (go_at_call 13; refine HW.out.mono ?_; rintro e w1 ⟨rfl, hb⟩)
        go_ret
        exact ⟨rfl, HB.out.trans (hb.mono hsz)⟩
      · clear hend
        go_wp2_with (go_at_call 13; refine HW.out.mono ?_; rintro e w1 ⟨rfl, hb⟩)
        go_ret
        exact ⟨rfl, HB.out.trans (hb.mono hsz)⟩

end Go.Proofs.Ytimjhjacinchjaa
