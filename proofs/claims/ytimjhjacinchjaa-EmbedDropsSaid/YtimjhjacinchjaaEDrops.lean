/- The law EmbedDrops, walked. -/
import Derived.Test.YtimjhjacinchjaaELaw
import Derived.Test.YtimjhjacinchjaaParts
import Derived.WalkMore
import Derived.Deep.RegionHeld3
import Derived.Deep.RegionWith
import Derived.BigRegion
import Derived.Deep.Cut
import Derived.Deep.CutBlock
import Derived.Deep.CutRange
set_option linter.unusedVariables false
set_option linter.unusedSimpArgs false
namespace Go.Proofs.Ytimjhjacinchjaa
open Go.RowKit Go.Rt

theorem lstC {α : Type} {n : Nat} {l : List α} (h : l.length = n + 1) : ∃ x t, l = x :: t ∧ t.length = n := by
  cases l with
  | nil => cases h
  | cons x t => exact ⟨x, t, rfl, Nat.succ.inj h⟩
theorem lst13 {α : Type} {l : List α} (h : l.length = 13) : ∃ x0 x1 x2 x3 x4 x5 x6 x7 x8 x9 x10 x11 x12, l = [x0, x1, x2, x3, x4, x5, x6, x7, x8, x9, x10, x11, x12] := by
  match l, h with
  | [x0, x1, x2, x3, x4, x5, x6, x7, x8, x9, x10, x11, x12], _ => exact ⟨x0, x1, x2, x3, x4, x5, x6, x7, x8, x9, x10, x11, x12, rfl⟩
theorem lst14 {α : Type} {l : List α} (h : l.length = 14) : ∃ x0 x1 x2 x3 x4 x5 x6 x7 x8 x9 x10 x11 x12 x13, l = [x0, x1, x2, x3, x4, x5, x6, x7, x8, x9, x10, x11, x12, x13] := by
  match l, h with
  | [x0, x1, x2, x3, x4, x5, x6, x7, x8, x9, x10, x11, x12, x13], _ => exact ⟨x0, x1, x2, x3, x4, x5, x6, x7, x8, x9, x10, x11, x12, x13, rfl⟩
theorem lst36 {α : Type} {l0 : List α} (h0 : l0.length = 36) : ∃ x0 x1 x2 x3 x4 x5 x6 x7 x8 x9 x10 x11 x12 x13 x14 x15 x16 x17 x18 x19 x20 x21 x22 x23 x24 x25 x26 x27 x28 x29 x30 x31 x32 x33 x34 x35, l0 = [x0, x1, x2, x3, x4, x5, x6, x7, x8, x9, x10, x11, x12, x13, x14, x15, x16, x17, x18, x19, x20, x21, x22, x23, x24, x25, x26, x27, x28, x29, x30, x31, x32, x33, x34, x35] := by
  obtain ⟨x0, l1, rfl, h1⟩ := lstC h0
  obtain ⟨x1, l2, rfl, h2⟩ := lstC h1
  obtain ⟨x2, l3, rfl, h3⟩ := lstC h2
  obtain ⟨x3, l4, rfl, h4⟩ := lstC h3
  obtain ⟨x4, l5, rfl, h5⟩ := lstC h4
  obtain ⟨x5, l6, rfl, h6⟩ := lstC h5
  obtain ⟨x6, l7, rfl, h7⟩ := lstC h6
  obtain ⟨x7, l8, rfl, h8⟩ := lstC h7
  obtain ⟨x8, l9, rfl, h9⟩ := lstC h8
  obtain ⟨x9, l10, rfl, h10⟩ := lstC h9
  obtain ⟨x10, l11, rfl, h11⟩ := lstC h10
  obtain ⟨x11, l12, rfl, h12⟩ := lstC h11
  obtain ⟨x12, l13, rfl, h13⟩ := lstC h12
  obtain ⟨x13, l14, rfl, h14⟩ := lstC h13
  obtain ⟨x14, l15, rfl, h15⟩ := lstC h14
  obtain ⟨x15, l16, rfl, h16⟩ := lstC h15
  obtain ⟨x16, l17, rfl, h17⟩ := lstC h16
  obtain ⟨x17, l18, rfl, h18⟩ := lstC h17
  obtain ⟨x18, l19, rfl, h19⟩ := lstC h18
  obtain ⟨x19, l20, rfl, h20⟩ := lstC h19
  obtain ⟨x20, l21, rfl, h21⟩ := lstC h20
  obtain ⟨x21, l22, rfl, h22⟩ := lstC h21
  obtain ⟨x22, l23, rfl, h23⟩ := lstC h22
  obtain ⟨x23, l24, rfl, h24⟩ := lstC h23
  obtain ⟨x24, l25, rfl, h25⟩ := lstC h24
  obtain ⟨x25, l26, rfl, h26⟩ := lstC h25
  obtain ⟨x26, l27, rfl, h27⟩ := lstC h26
  obtain ⟨x27, l28, rfl, h28⟩ := lstC h27
  obtain ⟨x28, l29, rfl, h29⟩ := lstC h28
  obtain ⟨x29, l30, rfl, h30⟩ := lstC h29
  obtain ⟨x30, l31, rfl, h31⟩ := lstC h30
  obtain ⟨x31, l32, rfl, h32⟩ := lstC h31
  obtain ⟨x32, l33, rfl, h33⟩ := lstC h32
  obtain ⟨x33, l34, rfl, h34⟩ := lstC h33
  obtain ⟨x34, l35, rfl, h35⟩ := lstC h34
  obtain ⟨x35, l36, rfl, h36⟩ := lstC h35
  obtain rfl := List.length_eq_zero_iff.1 h36
  exact ⟨x0, x1, x2, x3, x4, x5, x6, x7, x8, x9, x10, x11, x12, x13, x14, x15, x16, x17, x18, x19, x20, x21, x22, x23, x24, x25, x26, x27, x28, x29, x30, x31, x32, x33, x34, x35, rfl⟩
theorem ints_setOther {k : IntKind} {w : World} {hi : Nat} {a : Option Addr} {xs : List Int} {q o : Nat} {v v' : Value} (h : Ints k w hi a xs) (hc : w.cell? ⟨q, o, none⟩ = some v) (hv : ∀ x, v ≠ .int k x) : Ints k (w.setCell ⟨q, o, none⟩ v') hi a xs :=
  ⟨h.len, h.wf, fun i hi' => by
    obtain ⟨b, off, ha, hlt, hb⟩ := h.cell i hi'
    refine ⟨b, off, ha, hlt, ?_⟩
    rw [← hb]
    have hn : ¬ (b = q ∧ off + i = o) := by
      rintro ⟨h1, h2⟩
      subst h1 h2
      rw [hc] at hb
      cases hb
      exact hv _ rfl
    by_cases hq : b = q
    · have h2 : ¬ off + i = o := fun h => hn ⟨hq, h⟩
      go_simp
    · go_simp⟩
theorem ten_setOther {W : World} {hi : Nat} {a b : Option Addr} {c d : Nat} {xs ys : List Int} {q o : Nat} {v v' : Value} (h : Ten W hi a c b d xs ys) (hc : W.cell? ⟨q, o, none⟩ = some v) (hv : ∀ x, v ≠ .int .i64 x) : Ten (W.setCell ⟨q, o, none⟩ v') hi a c b d xs ys :=
  ⟨ints_setOther h.sh hc hv, ints_setOther h.da hc hv, h.c1, h.c2, h.d1, h.d2⟩
/-- A variable of two slices is written anew. -/
theorem TEnv.setBox {B : Nat} {w0 W : World} {T : List TenV} {C : List (Addr × Value)} {q n0 k0 n1 k1 : Nat} {s0 s1 : Option Addr} (h : TEnv B w0 W T ((⟨q, 0, none⟩, .slice s0 n0 k0) :: (⟨q, 1, none⟩, .slice s1 n1 k1) :: C)) (hq : B ≤ q) (hC : ∀ p ∈ C, p.1.block < q) (v0 v1 : Value) :
    TEnv B w0 ((W.setCell ⟨q, 0, none⟩ v0).setCell ⟨q, 1, none⟩ v1) T ((⟨q, 0, none⟩, v0) :: (⟨q, 1, none⟩, v1) :: C) := by
  have c0 := h.cells _ (List.mem_cons_self ..)
  have c1 := h.cells _ (List.mem_cons_of_mem _ (List.mem_cons_self ..))
  simp only at c0 c1
  have c1' : (W.setCell ⟨q, 0, none⟩ v0).cell? ⟨q, 1, none⟩ = some (.slice s1 n1 k1) := by
    have := c1.1
    go_simp
  have hs : ((W.setCell ⟨q, 0, none⟩ v0).setCell ⟨q, 1, none⟩ v1).heap.size = W.heap.size := by simp
  refine ⟨by rw [hs]; exact h.hB, (h.bel.setCell hq _).setCell hq _, ?_, ?_⟩
  · intro p hp
    rw [hs]
    exact ten_setOther (ten_setOther (h.tens p hp) c0.1 (by intro x e; cases e)) c1' (by intro x e; cases e)
  · intro p hp
    rw [hs]
    rcases List.mem_cons.1 hp with rfl | hp
    · exact ⟨by have := c0.1; have := c1.1; go_simp, c0.2⟩
    rcases List.mem_cons.1 hp with rfl | hp
    · exact ⟨by have := c0.1; have := c1'; go_simp, c0.2⟩
    · have hp2 := h.cells p (List.mem_cons_of_mem _ (List.mem_cons_of_mem _ hp))
      have hne : ¬ p.1.block = q := by have := hC p hp; omega
      exact ⟨by rw [World.cell?_setCell_far _ _ _ _ (fun e => hne e.symm), World.cell?_setCell_far _ _ _ _ (fun e => hne e.symm)]; exact hp2.1, hp2.2⟩
/-- A tensor as a value. -/
def IsA (xs ys : List Int) (u : Value) (w : World) : Prop := ∃ a c b d, u = .agg #[.slice a xs.length c, .slice b ys.length d] ∧ Ten w w.heap.size a c b d xs ys
theorem isA_carries (xs ys : List Int) : Carries (IsA xs ys) := fun _ _ _ ⟨a, c, b, d, h, h1⟩ hb => ⟨a, c, b, d, h, h1.next hb⟩
/-- Claims on values: a tensor and an error; a variable of two slices. -/
def IsT (xs ys : List Int) (z : Int) (u : Value) (w : World) : Prop := ∃ a c b d, u = .tuple #[.agg #[.slice a xs.length c, .slice b ys.length d], .int .i64 z] ∧ Ten w w.heap.size a c b d xs ys
theorem isT_carries (xs ys : List Int) (z : Int) : Carries (IsT xs ys z) := fun _ _ _ ⟨a, c, b, d, h, h1⟩ hb => ⟨a, c, b, d, h, h1.next hb⟩
def IsTB (W : World) (u : Value) (w : World) : Prop := ∃ q, u = .pointer (some ⟨q, 0, none⟩) ∧ W.heap.size ≤ q ∧ q < w.heap.size ∧ Box2 w q (.slice none 0 0) (.slice none 0 0)
theorem isTB_carries (W : World) : Carries (IsTB W) := fun _ _ _ ⟨q, h, h1, h2, h3⟩ hb => ⟨q, h, h1, Nat.lt_of_lt_of_le h2 hb.size, h3.below hb h2⟩
theorem retTen_is {w W : World} {xs ys : List Int} {z : Int} {e : Ending} (h : RetTen w xs ys z e W) (hw : ∀ y ∈ ys, isW y = true) : ∃ a c b d, e = .returned (.tuple #[.agg #[.slice a xs.length c, .slice b ys.length d], .int .i64 z]) ∧ Ten W W.heap.size a c b d xs ys ∧ Below w.heap.size w W := by
  obtain ⟨a, c, b, d, mid, rfl, _, hm, hI, ⟨hcap, _⟩, hO, hb⟩ := h
  exact ⟨a, c, b, d, rfl, ten_made hm hI hcap hO hw, hb⟩
/-- A tensor laid into a variable of its own. -/
theorem TEnv.boxed {B : Nat} {w0 W w1 : World} {T : List TenV} {C : List (Addr × Value)} {q : Nat} {a b : Option Addr} {c d : Nat} {xs ys : List Int} (E : TEnv B w0 W T C) (hb : Below W.heap.size W w1) (hT : Ten w1 w1.heap.size a c b d xs ys) (hX : Box2 w1 q (.slice none 0 0) (.slice none 0 0)) (hq : W.heap.size ≤ q) (v0 v1 : Value) :
    TEnv B w0 ((w1.setCell ⟨q, 0, none⟩ v0).setCell ⟨q, 1, none⟩ v1) (⟨a, c, b, d, xs, ys⟩ :: T) ((⟨q, 0, none⟩, v0) :: (⟨q, 1, none⟩, v1) :: C) := by
  refine ((((E.next hb).addT hT).addC hX.c1).addC hX.c0).setBox (Nat.le_trans E.hB hq) (fun p hp => ?_) v0 v1
  exact Nat.lt_of_lt_of_le (E.cells p hp).2 hq

set_option maxHeartbeats 8000000 in
set_option maxRecDepth 100000 in
theorem drops17_any (a : Option Addr) (n c : Nat) (w : World) (h : AsksAt w w.heap.size a n) :
    Calls Try.prog 4 #[.slice a n c] w fun e w' => e = .returned (.bool true) ∧ Below w.heap.size w w' := by
  have hm := h.len
  go_enter Try.func4, Try.ntmps4
  go_wp2_with fail
  go_loopw [3] (fun i wr => ∃ k : Nat, k ≤ n ∧ i = .int .i64 k ∧ Below w.heap.size w wr) (fun i _ => n - (intOf i).toNat)
  case atStart => exact ⟨0, Nat.zero_le _, rfl, Below.refl _ _⟩
  case round =>
    obtain ⟨k, hk, rfl, hbel⟩ := hrel
    obtain ⟨wo, rfl⟩ : ∃ wo : World, wo = wr := ⟨_, rfl⟩
    by_cases hend : k < n ∧ k < 10
    · obtain ⟨hlt, h6⟩ := hend
      obtain ⟨b, off, ⟨aA, cA, bA, dA, xsA, ysA⟩, ⟨aI, cI, aM, cM, ids, ms⟩, X, F, rfl, ht⟩ := h.at_ k hlt
      replace ht := ht.below hbel
      have hsz := hbel.size
      obtain ⟨hbl, c0, c1, c2, c3, c4, c5, tA, tB, X0, X1, F0, F1⟩ := ht
      replace tA := tA.mono hsz
      replace tB := tB.mono hsz
      have HB := Lib.hid hbel
      simp only at c0 c1 c2 c3 tA tB
      have E : TEnv wo.heap.size wo (wo.alloc (.cells #[.slice aA xsA.length cA, .slice bA ysA.length dA, .slice aI ids.length cI, .slice aM ms.length cM, .int .i64 X, .int .i64 F] 28)) [⟨aA, cA, bA, dA, xsA, ysA⟩, ⟨aI, cI, aM, cM, ids, ms⟩] [(⟨wo.heap.size, 0, none⟩, .slice aA xsA.length cA), (⟨wo.heap.size, 1, none⟩, .slice bA ysA.length dA), (⟨wo.heap.size, 2, none⟩, .slice aI ids.length cI), (⟨wo.heap.size, 3, none⟩, .slice aM ms.length cM), (⟨wo.heap.size, 4, none⟩, .int .i64 X), (⟨wo.heap.size, 5, none⟩, .int .i64 F)] :=
        (((((((((TEnv.start wo).addT tB).addT tA).alloc _).addC (by simp [go_sem])).addC (by simp [go_sem])).addC (by simp [go_sem])).addC (by simp [go_sem])).addC (by simp [go_sem])).addC (by simp [go_sem])
      have lA := tA.sh.len
      have lI := tB.sh.len
      have mA := tA.da.len
      have mM := tB.da.len
      have HH := Lib.hid (heavy17_any aA bA aI aM xsA.length cA ysA.length dA ids.length cI ms.length cM X F (wo.alloc (.cells #[.slice aA xsA.length cA, .slice bA ysA.length dA, .slice aI ids.length cI, .slice aM ms.length cM, .int .i64 X, .int .i64 F] 28)) lA mA)
      clear tA tB hbel h
      cases hhv : heavyE xsA.length ysA.length ids.length ms.length with
      | true =>
        rw [hhv] at HH
        clear hhv
        go_wp2_with fail
        refine HH.out.mono ?_
        rintro e w1 ⟨rfl, hb⟩
        have HE := Lib.hid (E.bel.trans (hb.mono E.hB))
        clear hb E HH
        go_wp2_with fail
        go_ret
        exact ⟨rfl, HB.out.trans (HE.out.mono hsz)⟩
      | false =>
        rw [hhv] at HH
        have hA40 : ysA.length ≤ 40 ∧ xsA.length ≤ 8 ∧ ids.length ≤ 60 ∧ ms.length ≤ 100 := by
          unfold heavyE at hhv
          simp at hhv
          omega
        obtain ⟨hA40, hA8, hI60, hM100⟩ := hA40
        clear hhv lA lI mA mM
        go_upto_region 7 with (refine HH.out.mono ?_; rintro e w1 ⟨rfl, hb⟩; replace E := E.next hb; clear hb HH c0 c1 c2 c3 c4 c5)
        have hdl := True.intro
        cases tA : tenB xsA ysA with
        | false =>
          as_aux_lemma =>
            have p1x := E.cellN 0 rfl
            have p2x := E.cellN 1 rfl
            have p3x := E.cellN 2 rfl
            have p4x := E.cellN 3 rfl
            have p5x := E.cellN 4 rfl
            have p6x := E.cellN 5 rfl
            go_wp2_with (go_at_call 6; refine (tenMay_any _ _ _ _ _ _ _ (E.tenN 0 rfl).sh (E.tenN 0 rfl).da).mono ?_; rintro e w2 ⟨he, hb⟩; rw [tA] at he; subst he; replace E := E.next hb; clear p1x p2x p3x p4x p5x p6x; have p7x := E.cellN 0 rfl; have p8x := E.cellN 1 rfl; have p9x := E.cellN 2 rfl; have p10x := E.cellN 3 rfl; have p11x := E.cellN 4 rfl; have p12x := E.cellN 5 rfl; clear hb)
            go_roundw
            case rel => exact ⟨k + 1, by omega, by go_num, HB.out.trans (E.bel.mono hsz)⟩
            case measure => simp [intOf]; omega
        | true =>
          by_cases hl : ms.length = ysA.length
          · have hlb : ((ms.length : Int) != (ysA.length : Int)) = false := by rw [hl]; simp
            have lT := tenB_iff.1 tA
            obtain ⟨f, hf, hf0, hf1⟩ : ∃ f : Nat, 8 + withinN F 25 = (f : Int) ∧ 8 ≤ f ∧ f ≤ 32 := ⟨(8 + withinN F 25).toNat, by have := withinN_bound F 25 (by decide); omega, by have := withinN_bound F 25 (by decide); omega, by have := withinN_bound F 25 (by decide); omega⟩
            have hF := fun w => Lib.hid (f_any F w ⟨F0, F1⟩)
            rw [hf] at hF
            clear hf
            have hd1 := drop_one (xs := xsA) f lT.2.2 hl
            have hl2 : ms.length = (keepL ms ysA).length := by rw [keepL_len]; exact hl
            have tK := keep_ten (ms := ms) tA
            have lK := tenB_iff.1 tK
            have hd2 := drop_one (xs := xsA) f lK.2.2 hl2
            rw [keep_keep] at hd2
            have hDA := fun a b am c d cm W (h : Ten W W.heap.size a c b d xsA ysA) (h2 : Ints .i64 W W.heap.size am ms) => Lib.hid (drop_any a b am c d cm f xsA ysA ms (2 ^ f) W h h2 tA (pow_word hf1) hf0 hf1)
            rw [hd1.1, hd1.2.1, hd1.2.2] at hDA
            have hDK := fun a b am c d cm W (h : Ten W W.heap.size a c b d xsA (keepL ms ysA)) (h2 : Ints .i64 W W.heap.size am ms) => Lib.hid (drop_any a b am c d cm f xsA (keepL ms ysA) ms (2 ^ f) W h h2 tK (pow_word hf1) hf0 hf1)
            rw [hd2.1, hd2.2.1, hd2.2.2] at hDK
            have hkw : ∀ y ∈ keepL ms ysA, isW y = true := lK.2.2
            have hkl := keepL_len ms ysA
            have hkg := fun i (hi : i < ysA.length) => keepL_get ms ysA hi
            have e3 : ∀ [Inhabited Unit], RowKit.wrap64 ((2 : Int) ^ f) = 2 ^ f := by
              intro _
              have h1 := Nat.pow_le_pow_right (show 0 < 2 by decide) hf1
              rw [← castPow]
              exact wrap_nat' _ (by omega)
            have e4 : ∀ [Inhabited Unit], IntKind.i64.wrap ((2 : Int) ^ f) = 2 ^ f := by
              intro _
              rw [IntWalk.i64_left]
              exact e3
            obtain ⟨K, hK⟩ : ∃ K, keepL ms ysA = K := ⟨_, rfl⟩
            rw [hK] at hDA hDK hkw hkl hkg
            have HKW := Lib.hid hkw
            have HKG := Lib.hid hkg
            have HKL := Lib.hid hkl
            have TA := Lib.hid tA
            have HL := Lib.hid hl
            clear hd1 hd2 hl2 tK lK hK hkw hkg hkl lT hl
            have p13x := E.cellN 0 rfl
            have p14x := E.cellN 1 rfl
            have p15x := E.cellN 2 rfl
            have p16x := E.cellN 3 rfl
            have p17x := E.cellN 4 rfl
            have p18x := E.cellN 5 rfl
            go_upto_region 9 with (first | (go_at_call 6; refine (tenMay_any _ _ _ _ _ _ _ (E.tenN 0 rfl).sh (E.tenN 0 rfl).da).mono ?_; rintro e w2 ⟨he, hb⟩; rw [TA.out] at he; subst he; replace E := E.next hb; clear p13x p14x p15x p16x p17x p18x; have p19x := E.cellN 0 rfl; have p20x := E.cellN 1 rfl; have p21x := E.cellN 2 rfl; have p22x := E.cellN 3 rfl; have p23x := E.cellN 4 rfl; have p24x := E.cellN 5 rfl; clear hb) | (go_at_call 7; refine (hF _).out.mono ?_; rintro e w' ⟨rfl, rfl⟩))
            clear p19x p20x p21x p22x p23x p24x
            obtain ⟨W9, hW9⟩ : ∃ V : World, w2 = V := ⟨_, rfl⟩
            rw [hW9] at E ⊢
            clear hW9
            go_cut [6, 7] from 44 to 54 (fun s6 s7 wx => ∃ (Qa : Nat) (aa : Option Addr) (ca : Nat) (ba : Option Addr) (da : Nat), s6 = .pointer (some ⟨Qa, 0, none⟩) ∧ s7 = .int .i64 0 ∧ TEnv wo.heap.size wo wx [⟨aa, ca, ba, da, xsA, K⟩, ⟨aA, cA, bA, dA, xsA, ysA⟩, ⟨aI, cI, aM, cM, ids, ms⟩] [(⟨Qa, 0, none⟩, .slice aa xsA.length ca), (⟨Qa, 1, none⟩, .slice ba K.length da), (⟨wo.heap.size, 0, none⟩, .slice aA xsA.length cA), (⟨wo.heap.size, 1, none⟩, .slice bA ysA.length dA), (⟨wo.heap.size, 2, none⟩, .slice aI ids.length cI), (⟨wo.heap.size, 3, none⟩, .slice aM ms.length cM), (⟨wo.heap.size, 4, none⟩, .int .i64 X), (⟨wo.heap.size, 5, none⟩, .int .i64 F)])
            case first =>
              as_aux_lemma =>
                refine wp_region_parts2 (w := W9) 12 2 (some 10) [] [(fun u _ => u = .pointer (some ⟨wo.heap.size, 0, none⟩)), (fun u _ => u = .agg #[.slice aA xsA.length cA, .slice bA ysA.length dA]), (fun u _ => u = .pointer (some ⟨wo.heap.size, 3, none⟩)), (fun u _ => u = .slice aM ms.length cM), (fun u _ => u = .int .i64 f), (fun u _ => u = .int .i64 (2 ^ f)), (fun u _ => u = .int .i64 f), ((IsT xsA K 0)), ((IsT xsA K 0)), ((IsA xsA K)), (fun u _ => u = .int .i64 0), ((IsTB W9))] [some 45, some 46, some 47, some 48, some 49, some 50, some 51, some 52, some 44, some 53, some 54, some 6, none, some 7] #[true, true, true, true, true, true, true, true, true, true, true, true, false, false] #[true, true, true, true, true, true, true, true, true, true, false, true, false, false] (by kernel_rfl) rfl (by kernel_rfl) (by kernel_rfl) rfl (by kernel_rfl) (by kernel_rfl) (.cons (carries_eq _) (.cons (carries_eq _) (.cons (carries_eq _) (.cons (carries_eq _) (.cons (carries_eq _) (.cons (carries_eq _) (.cons (carries_eq _) (.cons (isT_carries _ _ _) (.cons (isT_carries _ _ _) (.cons (isA_carries _ _) (.cons (carries_eq _) (.cons (isTB_carries _) .nil)))))))))))) (fun vs b hvl hvb => ?_)
                obtain ⟨x0, x1, x2, x3, x4, x5, x6, x7, x8, x9, x10, x11, x12, x13, rfl⟩ : ∃ x0 x1 x2 x3 x4 x5 x6 x7 x8 x9 x10 x11 x12 x13, vs = [x0, x1, x2, x3, x4, x5, x6, x7, x8, x9, x10, x11, x12, x13] := lst14 hvl
                clear hvl
                simp only [putAll, Act.put, List.setIfInBounds_toArray, List.set_cons_zero, List.set_cons_succ] at hvb
                subst hvb
                refine ⟨(.snoc (.snoc (.snoc (.snoc (.snoc (.snoc (.snoc (.snoc (.snoc (.snoc (.snoc (.snoc .zero (PartOb.intro (d := (some 45)) (r := fun u _ => u = .pointer (some ⟨wo.heap.size, 0, none⟩)) rfl rfl rfl rfl ?po9x0)) (PartOb.intro (d := (some 46)) (r := fun u _ => u = .agg #[.slice aA xsA.length cA, .slice bA ysA.length dA]) rfl rfl rfl rfl ?po9x1)) (PartOb.intro (d := (some 47)) (r := fun u _ => u = .pointer (some ⟨wo.heap.size, 3, none⟩)) rfl rfl rfl rfl ?po9x2)) (PartOb.intro (d := (some 48)) (r := fun u _ => u = .slice aM ms.length cM) rfl rfl rfl rfl ?po9x3)) (PartOb.intro (d := (some 49)) (r := fun u _ => u = .int .i64 f) rfl rfl rfl rfl ?po9x4)) (PartOb.intro (d := (some 50)) (r := fun u _ => u = .int .i64 (2 ^ f)) rfl rfl rfl rfl ?po9x5)) (PartOb.intro (d := (some 51)) (r := fun u _ => u = .int .i64 f) rfl rfl rfl rfl ?po9x6)) (PartOb.intro (d := (some 52)) (r := (IsT xsA K 0)) rfl rfl rfl rfl ?po9x7)) (PartOb.intro (d := (some 44)) (r := (IsT xsA K 0)) rfl rfl rfl rfl ?po9x8)) (PartOb.intro (d := (some 53)) (r := (IsA xsA K)) rfl rfl rfl rfl ?po9x9)) (PartOb.intro (d := (some 54)) (r := fun u _ => u = .int .i64 0) rfl rfl rfl rfl ?po9x10)) (PartOb.intro (d := (some 6)) (r := (IsTB W9)) rfl rfl rfl rfl ?po9x11)), ?pend9, ?pfl9⟩
                case po9x0 =>
                  intro w1 hb1 hd KK hK
                  clear hd
                  simp only [Act.put, List.setIfInBounds_toArray, List.set_cons_zero, List.set_cons_succ] at hK
                  go_simp
                  first | exact hK.out _ _ (Below.refl _ _) rfl | (have hk := hK.out _ _ (Below.refl _ _) rfl; revert hk; go_simp)
                case po9x1 =>
                  intro w1 hb1 hd KK hK
                  have d0 : x0 = .pointer (some ⟨wo.heap.size, 0, none⟩) := hd 0 (by kernel_rfl)
                  clear hd
                  subst d0
                  have hc0 := (E.next hb1).cellN 0 rfl
                  have hc1 := (E.next hb1).cellN 1 rfl
                  simp only [Act.put, List.setIfInBounds_toArray, List.set_cons_zero, List.set_cons_succ] at hK
                  go_simp
                  first | exact hK.out _ _ (Below.refl _ _) rfl | (have hk := hK.out _ _ (Below.refl _ _) rfl; revert hk; go_simp)
                case po9x2 =>
                  intro w1 hb1 hd KK hK
                  clear hd
                  simp only [Act.put, List.setIfInBounds_toArray, List.set_cons_zero, List.set_cons_succ] at hK
                  go_simp
                  first | exact hK.out _ _ (Below.refl _ _) rfl | (have hk := hK.out _ _ (Below.refl _ _) rfl; revert hk; go_simp)
                case po9x3 =>
                  intro w1 hb1 hd KK hK
                  have d2 : x2 = .pointer (some ⟨wo.heap.size, 3, none⟩) := hd 2 (by kernel_rfl)
                  clear hd
                  subst d2
                  have hc := (E.next hb1).cellN 3 rfl
                  simp only [Act.put, List.setIfInBounds_toArray, List.set_cons_zero, List.set_cons_succ] at hK
                  go_simp
                  first | exact hK.out _ _ (Below.refl _ _) rfl | (have hk := hK.out _ _ (Below.refl _ _) rfl; revert hk; go_simp)
                case po9x4 =>
                  intro w1 hb1 hd KK hK
                  clear hd
                  simp only [Act.put, List.setIfInBounds_toArray, List.set_cons_zero, List.set_cons_succ] at hK
                  go_simp
                  first | exact hK.out _ _ (Below.refl _ _) rfl | (have hk := hK.out _ _ (Below.refl _ _) rfl; revert hk; go_simp)
                case po9x5 =>
                  intro w1 hb1 hd KK hK
                  have d4 : x4 = .int .i64 f := hd 4 (by kernel_rfl)
                  clear hd
                  subst d4
                  simp only [Act.put, List.setIfInBounds_toArray, List.set_cons_zero, List.set_cons_succ] at hK
                  go_simp
                  first | exact hK.out _ _ (Below.refl _ _) rfl | (have hk := hK.out _ _ (Below.refl _ _) rfl; revert hk; go_simp)
                case po9x6 =>
                  intro w1 hb1 hd KK hK
                  clear hd
                  simp only [Act.put, List.setIfInBounds_toArray, List.set_cons_zero, List.set_cons_succ] at hK
                  go_simp
                  first | exact hK.out _ _ (Below.refl _ _) rfl | (have hk := hK.out _ _ (Below.refl _ _) rfl; revert hk; go_simp)
                case po9x7 =>
                  intro w1 hb1 hd KK hK
                  have d1 : x1 = .agg #[.slice aA xsA.length cA, .slice bA ysA.length dA] := hd 1 (by kernel_rfl)
                  have d3 : x3 = .slice aM ms.length cM := hd 3 (by kernel_rfl)
                  have d5 : x5 = .int .i64 (2 ^ f) := hd 5 (by kernel_rfl)
                  have d6 : x6 = .int .i64 f := hd 6 (by kernel_rfl)
                  clear hd
                  subst d1
                  subst d3
                  subst d5
                  subst d6
                  simp only [Act.put, List.setIfInBounds_toArray, List.set_cons_zero, List.set_cons_succ] at hK
                  go_simp
                  go_at_call 12
                  refine (hDA _ _ _ _ _ _ _ ((E.next hb1).tenN 0 rfl) ((E.next hb1).tenN 1 rfl).da).out.mono ?_
                  intro e w2 hr
                  obtain ⟨a2, c2, b2, d2, rfl, hT2, hb2⟩ := retTen_is hr HKW.out
                  (try go_wp2_with fail)
                  first | exact hK.out _ _ hb2 ⟨a2, c2, b2, d2, rfl, hT2⟩ | (have hk := hK.out _ _ hb2 ⟨a2, c2, b2, d2, rfl, hT2⟩; revert hk; go_simp)
                case po9x8 =>
                  intro w1 hb1 hd KK hK
                  have d7 : (IsT xsA K 0) x7 w1 := hd 7 (by kernel_rfl)
                  clear hd
                  obtain ⟨a7y, c7y, b7y, d7y, rfl, hT7⟩ := d7
                  simp only [Act.put, List.setIfInBounds_toArray, List.set_cons_zero, List.set_cons_succ] at hK
                  go_simp
                  first | exact hK.out _ _ (Below.refl _ _) ⟨a7y, c7y, b7y, d7y, rfl, hT7⟩ | (have hk := hK.out _ _ (Below.refl _ _) ⟨a7y, c7y, b7y, d7y, rfl, hT7⟩; revert hk; go_simp)
                case po9x9 =>
                  intro w1 hb1 hd KK hK
                  have d8 : (IsT xsA K 0) x8 w1 := hd 8 (by kernel_rfl)
                  clear hd
                  obtain ⟨a8y, c8y, b8y, d8y, rfl, hT8⟩ := d8
                  simp only [Act.put, List.setIfInBounds_toArray, List.set_cons_zero, List.set_cons_succ] at hK
                  go_simp
                  first | exact hK.out _ _ (Below.refl _ _) ⟨a8y, c8y, b8y, d8y, rfl, hT8⟩ | (have hk := hK.out _ _ (Below.refl _ _) ⟨a8y, c8y, b8y, d8y, rfl, hT8⟩; revert hk; go_simp)
                case po9x10 =>
                  intro w1 hb1 hd KK hK
                  have d8 : (IsT xsA K 0) x8 w1 := hd 8 (by kernel_rfl)
                  clear hd
                  obtain ⟨a8y, c8y, b8y, d8y, rfl, hT8⟩ := d8
                  simp only [Act.put, List.setIfInBounds_toArray, List.set_cons_zero, List.set_cons_succ] at hK
                  go_simp
                  first | exact hK.out _ _ (Below.refl _ _) rfl | (have hk := hK.out _ _ (Below.refl _ _) rfl; revert hk; go_simp)
                case po9x11 =>
                  intro w1 hb1 hd KK hK
                  clear hd
                  simp only [Act.put, List.setIfInBounds_toArray, List.set_cons_zero, List.set_cons_succ] at hK
                  go_simp
                  first | exact hK.out _ _ ((Below.refl _ _).alloc (Nat.le_refl _) _) ⟨w1.heap.size, rfl, hb1.size, by simp, by constructor <;> go_simp⟩ | (have hk := hK.out _ _ ((Below.refl _ _).alloc (Nat.le_refl _) _) ⟨w1.heap.size, rfl, hb1.size, by simp, by constructor <;> go_simp⟩; revert hk; go_simp)
                case pend9 =>
                  intro w1 hb1 hR hD
                  have d0 : x0 = .pointer (some ⟨wo.heap.size, 0, none⟩) := hR 0 (by decide)
                  have d1 : x1 = .agg #[.slice aA xsA.length cA, .slice bA ysA.length dA] := hR 1 (by decide)
                  have d2 : x2 = .pointer (some ⟨wo.heap.size, 3, none⟩) := hR 2 (by decide)
                  have d3 : x3 = .slice aM ms.length cM := hR 3 (by decide)
                  have d4 : x4 = .int .i64 f := hR 4 (by decide)
                  have d5 : x5 = .int .i64 (2 ^ f) := hR 5 (by decide)
                  have d6 : x6 = .int .i64 f := hR 6 (by decide)
                  have d7 : (IsT xsA K 0) x7 w1 := hR 7 (by decide)
                  have d8 : (IsT xsA K 0) x8 w1 := hR 8 (by decide)
                  have d9 : (IsA xsA K) x9 w1 := hR 9 (by decide)
                  have d10 : x10 = .int .i64 0 := hR 10 (by decide)
                  have d11 : (IsTB W9) x11 w1 := hR 11 (by decide)
                  clear hR hD
                  subst d0
                  subst d1
                  subst d2
                  subst d3
                  subst d4
                  subst d5
                  subst d6
                  obtain ⟨a7y, c7y, b7y, d7y, rfl, hT7⟩ := d7
                  obtain ⟨a8y, c8y, b8y, d8y, rfl, hT8⟩ := d8
                  obtain ⟨a9y, c9y, b9y, d9y, rfl, hT9⟩ := d9
                  subst d10
                  obtain ⟨q11, rfl, hle11, hlt11, hX11⟩ := d11
                  refine wpAny_ready (rs := [12]) (by kernel_rfl) (by simp) (AllReady.cons rfl (fun KK hK => ?_) AllReady.nil)
                  have hE2 := E.boxed hb1 hT9 hX11 hle11 (.slice a9y xsA.length c9y) (.slice b9y K.length d9y)
                  obtain ⟨f0, f1, f2, f3⟩ := hX11
                  go_simp
                  refine hK _ _ ?_
                  clear hK KK
                  try simp only [putAll, Act.put, List.setIfInBounds_toArray, List.set_cons_zero, List.set_cons_succ]
                  refine wpAny_ready (rs := [13]) (by kernel_rfl) (by simp) (AllReady.cons rfl (fun KK hK => ?_) AllReady.nil)
                  go_simp
                  refine hK _ _ ?_
                  clear hK KK
                  try simp only [putAll, Act.put, List.setIfInBounds_toArray, List.set_cons_zero, List.set_cons_succ]
                  refine wpAny_done (by kernel_rfl) ?_ _
                  go_wp2
                  go_meet
                  exact ⟨q11, a9y, c9y, b9y, d9y, rfl, rfl, hE2⟩
                case pfl9 =>
                  intro f hf hfn w1 hb1 hR hD
                  injection hf with hf
                  subst hf
                  have d0 : x0 = .pointer (some ⟨wo.heap.size, 0, none⟩) := hR 0 (by decide) (by decide)
                  have d1 : x1 = .agg #[.slice aA xsA.length cA, .slice bA ysA.length dA] := hR 1 (by decide) (by decide)
                  have d2 : x2 = .pointer (some ⟨wo.heap.size, 3, none⟩) := hR 2 (by decide) (by decide)
                  have d3 : x3 = .slice aM ms.length cM := hR 3 (by decide) (by decide)
                  have d4 : x4 = .int .i64 f := hR 4 (by decide) (by decide)
                  have d5 : x5 = .int .i64 (2 ^ f) := hR 5 (by decide) (by decide)
                  have d6 : x6 = .int .i64 f := hR 6 (by decide) (by decide)
                  have d7 : (IsT xsA K 0) x7 w1 := hR 7 (by decide) (by decide)
                  have d8 : (IsT xsA K 0) x8 w1 := hR 8 (by decide) (by decide)
                  have d9 : (IsA xsA K) x9 w1 := hR 9 (by decide) (by decide)
                  have d11 : (IsTB W9) x11 w1 := hR 11 (by decide) (by decide)
                  clear hR hD
                  subst d0
                  subst d1
                  subst d2
                  subst d3
                  subst d4
                  subst d5
                  subst d6
                  obtain ⟨a7y, c7y, b7y, d7y, rfl, hT7⟩ := d7
                  obtain ⟨a8y, c8y, b8y, d8y, rfl, hT8⟩ := d8
                  obtain ⟨a9y, c9y, b9y, d9y, rfl, hT9⟩ := d9
                  obtain ⟨q11, rfl, hle11, hlt11, hX11⟩ := d11
                  refine wpAny_take (i := 10) (v := .int .i64 0) rfl (by kernel_rfl) (by kernel_rfl) (by kernel_rfl) (fun _ _ _ h => h) (.inl ⟨by rfl, fun w => by go_simp⟩) ?_
                  try simp only [putAll, Act.put, List.setIfInBounds_toArray, List.set_cons_zero, List.set_cons_succ]
                  refine wpAny_ready (rs := [12]) (by kernel_rfl) (by simp) (AllReady.cons rfl (fun KK hK => ?_) AllReady.nil)
                  have hE2 := E.boxed hb1 hT9 hX11 hle11 (.slice a9y xsA.length c9y) (.slice b9y K.length d9y)
                  obtain ⟨f0, f1, f2, f3⟩ := hX11
                  go_simp
                  refine hK _ _ ?_
                  clear hK KK
                  try simp only [putAll, Act.put, List.setIfInBounds_toArray, List.set_cons_zero, List.set_cons_succ]
                  refine wpAny_ready (rs := [13]) (by kernel_rfl) (by simp) (AllReady.cons rfl (fun KK hK => ?_) AllReady.nil)
                  go_simp
                  refine hK _ _ ?_
                  clear hK KK
                  try simp only [putAll, Act.put, List.setIfInBounds_toArray, List.set_cons_zero, List.set_cons_succ]
                  refine wpAny_done (by kernel_rfl) ?_ _
                  go_wp2
                  go_meet
                  exact ⟨q11, a9y, c9y, b9y, d9y, rfl, rfl, hE2⟩
            case rest =>
              obtain ⟨Qa, aa, ca, ba, da, rfl, rfl, E1⟩ := hcut
              clear E
              have E := E1
              clear E1
              obtain ⟨W10, hW10⟩ : ∃ V : World, wc = V := ⟨_, rfl⟩
              rw [hW10] at E ⊢
              clear hW10
              go_upto_region 10 with fail
              go_cut [8, 9] from 55 to 64 (fun s6 s7 wx => ∃ (Qb : Nat) (ab : Option Addr) (cb : Nat) (bb : Option Addr) (db : Nat), s6 = .pointer (some ⟨Qb, 0, none⟩) ∧ s7 = .int .i64 0 ∧ TEnv wo.heap.size wo wx [⟨ab, cb, bb, db, xsA, K⟩, ⟨aa, ca, ba, da, xsA, K⟩, ⟨aA, cA, bA, dA, xsA, ysA⟩, ⟨aI, cI, aM, cM, ids, ms⟩] [(⟨Qb, 0, none⟩, .slice ab xsA.length cb), (⟨Qb, 1, none⟩, .slice bb K.length db), (⟨Qa, 0, none⟩, .slice aa xsA.length ca), (⟨Qa, 1, none⟩, .slice ba K.length da), (⟨wo.heap.size, 0, none⟩, .slice aA xsA.length cA), (⟨wo.heap.size, 1, none⟩, .slice bA ysA.length dA), (⟨wo.heap.size, 2, none⟩, .slice aI ids.length cI), (⟨wo.heap.size, 3, none⟩, .slice aM ms.length cM), (⟨wo.heap.size, 4, none⟩, .int .i64 X), (⟨wo.heap.size, 5, none⟩, .int .i64 F)])
              case first =>
                as_aux_lemma =>
                  refine wp_region_parts2 (w := W10) 11 2 (some 9) [] [(fun u _ => u = .agg #[.slice aa xsA.length ca, .slice ba K.length da]), (fun u _ => u = .pointer (some ⟨wo.heap.size, 3, none⟩)), (fun u _ => u = .slice aM ms.length cM), (fun u _ => u = .int .i64 f), (fun u _ => u = .int .i64 (2 ^ f)), (fun u _ => u = .int .i64 f), ((IsT xsA K 0)), ((IsT xsA K 0)), ((IsA xsA K)), (fun u _ => u = .int .i64 0), ((IsTB W10))] [some 56, some 57, some 58, some 59, some 60, some 61, some 62, some 55, some 63, some 64, some 8, none, some 9] #[true, true, true, true, true, true, true, true, true, true, true, false, false] #[true, true, true, true, true, true, true, true, true, false, true, false, false] (by kernel_rfl) rfl (by kernel_rfl) (by kernel_rfl) rfl (by kernel_rfl) (by kernel_rfl) (.cons (carries_eq _) (.cons (carries_eq _) (.cons (carries_eq _) (.cons (carries_eq _) (.cons (carries_eq _) (.cons (carries_eq _) (.cons (isT_carries _ _ _) (.cons (isT_carries _ _ _) (.cons (isA_carries _ _) (.cons (carries_eq _) (.cons (isTB_carries _) .nil))))))))))) (fun vs b hvl hvb => ?_)
                  obtain ⟨x0, x1, x2, x3, x4, x5, x6, x7, x8, x9, x10, x11, x12, rfl⟩ : ∃ x0 x1 x2 x3 x4 x5 x6 x7 x8 x9 x10 x11 x12, vs = [x0, x1, x2, x3, x4, x5, x6, x7, x8, x9, x10, x11, x12] := lst13 hvl
                  clear hvl
                  simp only [putAll, Act.put, List.setIfInBounds_toArray, List.set_cons_zero, List.set_cons_succ] at hvb
                  subst hvb
                  refine ⟨(.snoc (.snoc (.snoc (.snoc (.snoc (.snoc (.snoc (.snoc (.snoc (.snoc (.snoc .zero (PartOb.intro (d := (some 56)) (r := fun u _ => u = .agg #[.slice aa xsA.length ca, .slice ba K.length da]) rfl rfl rfl rfl ?po10x0)) (PartOb.intro (d := (some 57)) (r := fun u _ => u = .pointer (some ⟨wo.heap.size, 3, none⟩)) rfl rfl rfl rfl ?po10x1)) (PartOb.intro (d := (some 58)) (r := fun u _ => u = .slice aM ms.length cM) rfl rfl rfl rfl ?po10x2)) (PartOb.intro (d := (some 59)) (r := fun u _ => u = .int .i64 f) rfl rfl rfl rfl ?po10x3)) (PartOb.intro (d := (some 60)) (r := fun u _ => u = .int .i64 (2 ^ f)) rfl rfl rfl rfl ?po10x4)) (PartOb.intro (d := (some 61)) (r := fun u _ => u = .int .i64 f) rfl rfl rfl rfl ?po10x5)) (PartOb.intro (d := (some 62)) (r := (IsT xsA K 0)) rfl rfl rfl rfl ?po10x6)) (PartOb.intro (d := (some 55)) (r := (IsT xsA K 0)) rfl rfl rfl rfl ?po10x7)) (PartOb.intro (d := (some 63)) (r := (IsA xsA K)) rfl rfl rfl rfl ?po10x8)) (PartOb.intro (d := (some 64)) (r := fun u _ => u = .int .i64 0) rfl rfl rfl rfl ?po10x9)) (PartOb.intro (d := (some 8)) (r := (IsTB W10)) rfl rfl rfl rfl ?po10x10)), ?pend10, ?pfl10⟩
                  case po10x0 =>
                    intro w1 hb1 hd KK hK
                    clear hd
                    have hc0 := (E.next hb1).cellN 0 rfl
                    have hc1 := (E.next hb1).cellN 1 rfl
                    simp only [Act.put, List.setIfInBounds_toArray, List.set_cons_zero, List.set_cons_succ] at hK
                    go_simp
                    first | exact hK.out _ _ (Below.refl _ _) rfl | (have hk := hK.out _ _ (Below.refl _ _) rfl; revert hk; go_simp)
                  case po10x1 =>
                    intro w1 hb1 hd KK hK
                    clear hd
                    simp only [Act.put, List.setIfInBounds_toArray, List.set_cons_zero, List.set_cons_succ] at hK
                    go_simp
                    first | exact hK.out _ _ (Below.refl _ _) rfl | (have hk := hK.out _ _ (Below.refl _ _) rfl; revert hk; go_simp)
                  case po10x2 =>
                    intro w1 hb1 hd KK hK
                    have d1 : x1 = .pointer (some ⟨wo.heap.size, 3, none⟩) := hd 1 (by kernel_rfl)
                    clear hd
                    subst d1
                    have hc := (E.next hb1).cellN 5 rfl
                    simp only [Act.put, List.setIfInBounds_toArray, List.set_cons_zero, List.set_cons_succ] at hK
                    go_simp
                    first | exact hK.out _ _ (Below.refl _ _) rfl | (have hk := hK.out _ _ (Below.refl _ _) rfl; revert hk; go_simp)
                  case po10x3 =>
                    intro w1 hb1 hd KK hK
                    clear hd
                    simp only [Act.put, List.setIfInBounds_toArray, List.set_cons_zero, List.set_cons_succ] at hK
                    go_simp
                    first | exact hK.out _ _ (Below.refl _ _) rfl | (have hk := hK.out _ _ (Below.refl _ _) rfl; revert hk; go_simp)
                  case po10x4 =>
                    intro w1 hb1 hd KK hK
                    have d3 : x3 = .int .i64 f := hd 3 (by kernel_rfl)
                    clear hd
                    subst d3
                    simp only [Act.put, List.setIfInBounds_toArray, List.set_cons_zero, List.set_cons_succ] at hK
                    go_simp
                    first | exact hK.out _ _ (Below.refl _ _) rfl | (have hk := hK.out _ _ (Below.refl _ _) rfl; revert hk; go_simp)
                  case po10x5 =>
                    intro w1 hb1 hd KK hK
                    clear hd
                    simp only [Act.put, List.setIfInBounds_toArray, List.set_cons_zero, List.set_cons_succ] at hK
                    go_simp
                    first | exact hK.out _ _ (Below.refl _ _) rfl | (have hk := hK.out _ _ (Below.refl _ _) rfl; revert hk; go_simp)
                  case po10x6 =>
                    intro w1 hb1 hd KK hK
                    have d0 : x0 = .agg #[.slice aa xsA.length ca, .slice ba K.length da] := hd 0 (by kernel_rfl)
                    have d2 : x2 = .slice aM ms.length cM := hd 2 (by kernel_rfl)
                    have d4 : x4 = .int .i64 (2 ^ f) := hd 4 (by kernel_rfl)
                    have d5 : x5 = .int .i64 f := hd 5 (by kernel_rfl)
                    clear hd
                    subst d0
                    subst d2
                    subst d4
                    subst d5
                    simp only [Act.put, List.setIfInBounds_toArray, List.set_cons_zero, List.set_cons_succ] at hK
                    go_simp
                    go_at_call 12
                    refine (hDK _ _ _ _ _ _ _ ((E.next hb1).tenN 0 rfl) ((E.next hb1).tenN 2 rfl).da).out.mono ?_
                    intro e w2 hr
                    obtain ⟨a2, c2, b2, d2, rfl, hT2, hb2⟩ := retTen_is hr HKW.out
                    (try go_wp2_with fail)
                    first | exact hK.out _ _ hb2 ⟨a2, c2, b2, d2, rfl, hT2⟩ | (have hk := hK.out _ _ hb2 ⟨a2, c2, b2, d2, rfl, hT2⟩; revert hk; go_simp)
                  case po10x7 =>
                    intro w1 hb1 hd KK hK
                    have d6 : (IsT xsA K 0) x6 w1 := hd 6 (by kernel_rfl)
                    clear hd
                    obtain ⟨a6y, c6y, b6y, d6y, rfl, hT6⟩ := d6
                    simp only [Act.put, List.setIfInBounds_toArray, List.set_cons_zero, List.set_cons_succ] at hK
                    go_simp
                    first | exact hK.out _ _ (Below.refl _ _) ⟨a6y, c6y, b6y, d6y, rfl, hT6⟩ | (have hk := hK.out _ _ (Below.refl _ _) ⟨a6y, c6y, b6y, d6y, rfl, hT6⟩; revert hk; go_simp)
                  case po10x8 =>
                    intro w1 hb1 hd KK hK
                    have d7 : (IsT xsA K 0) x7 w1 := hd 7 (by kernel_rfl)
                    clear hd
                    obtain ⟨a7y, c7y, b7y, d7y, rfl, hT7⟩ := d7
                    simp only [Act.put, List.setIfInBounds_toArray, List.set_cons_zero, List.set_cons_succ] at hK
                    go_simp
                    first | exact hK.out _ _ (Below.refl _ _) ⟨a7y, c7y, b7y, d7y, rfl, hT7⟩ | (have hk := hK.out _ _ (Below.refl _ _) ⟨a7y, c7y, b7y, d7y, rfl, hT7⟩; revert hk; go_simp)
                  case po10x9 =>
                    intro w1 hb1 hd KK hK
                    have d7 : (IsT xsA K 0) x7 w1 := hd 7 (by kernel_rfl)
                    clear hd
                    obtain ⟨a7y, c7y, b7y, d7y, rfl, hT7⟩ := d7
                    simp only [Act.put, List.setIfInBounds_toArray, List.set_cons_zero, List.set_cons_succ] at hK
                    go_simp
                    first | exact hK.out _ _ (Below.refl _ _) rfl | (have hk := hK.out _ _ (Below.refl _ _) rfl; revert hk; go_simp)
                  case po10x10 =>
                    intro w1 hb1 hd KK hK
                    clear hd
                    simp only [Act.put, List.setIfInBounds_toArray, List.set_cons_zero, List.set_cons_succ] at hK
                    go_simp
                    first | exact hK.out _ _ ((Below.refl _ _).alloc (Nat.le_refl _) _) ⟨w1.heap.size, rfl, hb1.size, by simp, by constructor <;> go_simp⟩ | (have hk := hK.out _ _ ((Below.refl _ _).alloc (Nat.le_refl _) _) ⟨w1.heap.size, rfl, hb1.size, by simp, by constructor <;> go_simp⟩; revert hk; go_simp)
                  case pend10 =>
                    intro w1 hb1 hR hD
                    have d0 : x0 = .agg #[.slice aa xsA.length ca, .slice ba K.length da] := hR 0 (by decide)
                    have d1 : x1 = .pointer (some ⟨wo.heap.size, 3, none⟩) := hR 1 (by decide)
                    have d2 : x2 = .slice aM ms.length cM := hR 2 (by decide)
                    have d3 : x3 = .int .i64 f := hR 3 (by decide)
                    have d4 : x4 = .int .i64 (2 ^ f) := hR 4 (by decide)
                    have d5 : x5 = .int .i64 f := hR 5 (by decide)
                    have d6 : (IsT xsA K 0) x6 w1 := hR 6 (by decide)
                    have d7 : (IsT xsA K 0) x7 w1 := hR 7 (by decide)
                    have d8 : (IsA xsA K) x8 w1 := hR 8 (by decide)
                    have d9 : x9 = .int .i64 0 := hR 9 (by decide)
                    have d10 : (IsTB W10) x10 w1 := hR 10 (by decide)
                    clear hR hD
                    subst d0
                    subst d1
                    subst d2
                    subst d3
                    subst d4
                    subst d5
                    obtain ⟨a6y, c6y, b6y, d6y, rfl, hT6⟩ := d6
                    obtain ⟨a7y, c7y, b7y, d7y, rfl, hT7⟩ := d7
                    obtain ⟨a8y, c8y, b8y, d8y, rfl, hT8⟩ := d8
                    subst d9
                    obtain ⟨q10, rfl, hle10, hlt10, hX10⟩ := d10
                    refine wpAny_ready (rs := [11]) (by kernel_rfl) (by simp) (AllReady.cons rfl (fun KK hK => ?_) AllReady.nil)
                    have hE2 := E.boxed hb1 hT8 hX10 hle10 (.slice a8y xsA.length c8y) (.slice b8y K.length d8y)
                    obtain ⟨f0, f1, f2, f3⟩ := hX10
                    go_simp
                    refine hK _ _ ?_
                    clear hK KK
                    try simp only [putAll, Act.put, List.setIfInBounds_toArray, List.set_cons_zero, List.set_cons_succ]
                    refine wpAny_ready (rs := [12]) (by kernel_rfl) (by simp) (AllReady.cons rfl (fun KK hK => ?_) AllReady.nil)
                    go_simp
                    refine hK _ _ ?_
                    clear hK KK
                    try simp only [putAll, Act.put, List.setIfInBounds_toArray, List.set_cons_zero, List.set_cons_succ]
                    refine wpAny_done (by kernel_rfl) ?_ _
                    go_wp2
                    go_meet
                    exact ⟨q10, a8y, c8y, b8y, d8y, rfl, rfl, hE2⟩
                  case pfl10 =>
                    intro f hf hfn w1 hb1 hR hD
                    injection hf with hf
                    subst hf
                    have d0 : x0 = .agg #[.slice aa xsA.length ca, .slice ba K.length da] := hR 0 (by decide) (by decide)
                    have d1 : x1 = .pointer (some ⟨wo.heap.size, 3, none⟩) := hR 1 (by decide) (by decide)
                    have d2 : x2 = .slice aM ms.length cM := hR 2 (by decide) (by decide)
                    have d3 : x3 = .int .i64 f := hR 3 (by decide) (by decide)
                    have d4 : x4 = .int .i64 (2 ^ f) := hR 4 (by decide) (by decide)
                    have d5 : x5 = .int .i64 f := hR 5 (by decide) (by decide)
                    have d6 : (IsT xsA K 0) x6 w1 := hR 6 (by decide) (by decide)
                    have d7 : (IsT xsA K 0) x7 w1 := hR 7 (by decide) (by decide)
                    have d8 : (IsA xsA K) x8 w1 := hR 8 (by decide) (by decide)
                    have d10 : (IsTB W10) x10 w1 := hR 10 (by decide) (by decide)
                    clear hR hD
                    subst d0
                    subst d1
                    subst d2
                    subst d3
                    subst d4
                    subst d5
                    obtain ⟨a6y, c6y, b6y, d6y, rfl, hT6⟩ := d6
                    obtain ⟨a7y, c7y, b7y, d7y, rfl, hT7⟩ := d7
                    obtain ⟨a8y, c8y, b8y, d8y, rfl, hT8⟩ := d8
                    obtain ⟨q10, rfl, hle10, hlt10, hX10⟩ := d10
                    refine wpAny_take (i := 9) (v := .int .i64 0) rfl (by kernel_rfl) (by kernel_rfl) (by kernel_rfl) (fun _ _ _ h => h) (.inl ⟨by rfl, fun w => by go_simp⟩) ?_
                    try simp only [putAll, Act.put, List.setIfInBounds_toArray, List.set_cons_zero, List.set_cons_succ]
                    refine wpAny_ready (rs := [11]) (by kernel_rfl) (by simp) (AllReady.cons rfl (fun KK hK => ?_) AllReady.nil)
                    have hE2 := E.boxed hb1 hT8 hX10 hle10 (.slice a8y xsA.length c8y) (.slice b8y K.length d8y)
                    obtain ⟨f0, f1, f2, f3⟩ := hX10
                    go_simp
                    refine hK _ _ ?_
                    clear hK KK
                    try simp only [putAll, Act.put, List.setIfInBounds_toArray, List.set_cons_zero, List.set_cons_succ]
                    refine wpAny_ready (rs := [12]) (by kernel_rfl) (by simp) (AllReady.cons rfl (fun KK hK => ?_) AllReady.nil)
                    go_simp
                    refine hK _ _ ?_
                    clear hK KK
                    try simp only [putAll, Act.put, List.setIfInBounds_toArray, List.set_cons_zero, List.set_cons_succ]
                    refine wpAny_done (by kernel_rfl) ?_ _
                    go_wp2
                    go_meet
                    exact ⟨q10, a8y, c8y, b8y, d8y, rfl, rfl, hE2⟩
              case rest =>
                obtain ⟨Qb, ab, cb, bb, db, rfl, rfl, E1⟩ := hcut
                clear E
                have E := E1
                clear E1
                obtain ⟨W11, hW11⟩ : ∃ V : World, wc = V := ⟨_, rfl⟩
                rw [hW11] at E ⊢
                clear hW11
                clear hDA hDK
                have hkm : ((K.length : Int) != (ms.length : Int)) = false := by rw [HKL.out, HL.out]; simp
                have hEq := fun a b a2 b2 c d c2 d2 W h1 h2 h3 h4 => Lib.hid (eqTensor_any a b a2 b2 c d c2 d2 xsA K xsA K W h1 h2 h3 h4)
                simp only [decide_true, Bool.and_self] at hEq
                have p25x := E.cellN 2 rfl
                have p26x := E.cellN 3 rfl
                have p27x := E.cellN 0 rfl
                have p28x := E.cellN 1 rfl
                have p29x := E.cellN 7 rfl
                go_upto_block 2 with (first | (go_at_call 9; refine (num17_any _ _).mono ?_; rintro e w' ⟨rfl, rfl⟩) | (go_at_call 10; refine (hEq _ _ _ _ _ _ _ _ _ (E.tenN 1 rfl).sh (E.tenN 1 rfl).da (E.tenN 0 rfl).sh (E.tenN 0 rfl).da).out.mono ?_; rintro e w6 ⟨rfl, hb⟩; replace E := E.next hb; clear p25x p26x p27x p28x p29x; have p30x := E.cellN 2 rfl; have p31x := E.cellN 3 rfl; have p32x := E.cellN 0 rfl; have p33x := E.cellN 1 rfl; have p34x := E.cellN 7 rfl; clear hb))
                obtain ⟨W12, hW12⟩ : ∃ V : World, w6 = V := ⟨_, rfl⟩
                rw [hW12] at E ⊢
                clear p30x p31x p32x p33x p34x
                clear hW12 hEq
                have E0 := Lib.hid E
                clear E
                go_wp2
                go_loopw [10] (fun s10 wr => ∃ i : Nat, i ≤ ms.length ∧ s10 = .int .i64 i ∧ Below W12.heap.size W12 wr) (fun s10 _ => ms.length - (intOf s10).toNat)
                case atStart => exact ⟨0, Nat.zero_le _, rfl, Below.refl _ _⟩
                case round =>
                  obtain ⟨i, hi, rfl, hbi⟩ := hrel
                  obtain ⟨wi, rfl⟩ : ∃ wi : World, wi = wr := ⟨_, rfl⟩
                  have E := E0.out.next hbi
                  have HBI := Lib.hid hbi
                  clear hbi
                  by_cases hil : i < ms.length
                  · have hp3 := E.cellN 7 rfl
                    have hily : i < ysA.length := by rw [← HL.out]; exact hil
                    have hilk : i < K.length := by rw [HKL.out]; exact hily
                    obtain ⟨bM, oM, eM, lM, cm⟩ := (E.tenN 3 rfl).da.cell i hil
                    obtain ⟨bK, oK, eK, lK, ck⟩ := (E.tenN 1 rfl).da.cell i hilk
                    obtain ⟨bY, oY, eY, lY, cy⟩ := (E.tenN 2 rfl).da.cell i hily
                    have hkv := HKG.out i hily
                    obtain ⟨m, hm0⟩ : ∃ m, ms[i]?.getD 0 = m := ⟨_, rfl⟩
                    obtain ⟨y, hy0⟩ : ∃ y, ysA[i]?.getD 0 = y := ⟨_, rfl⟩
                    unfold keepV at hkv
                    rw [hm0, hy0] at hkv
                    rw [hm0] at cm
                    rw [hy0] at cy
                    rw [hkv] at ck
                    subst eM
                    subst eK
                    subst eY
                    have CM := Lib.hid cm
                    have CK := Lib.hid ck
                    have CY := Lib.hid cy
                    clear cm ck cy hkv hm0 hy0
                    go_upto_region 16 with fail
                    obtain ⟨W16, hW16⟩ : ∃ V : World, wi = V := ⟨_, rfl⟩
                    have HL2 := Lib.hid (And.intro lM (And.intro lK lY))
                    by_cases hm : m = 0
                    · as_aux_lemma =>
                        subst hm
                        rw [if_pos rfl] at CK
                        skip
                        refine wp_region_parts2 (w := wi) 36 0 none [] [(fun u _ => u = .pointer (some ⟨wo.heap.size, 3, none⟩)), (fun u _ => u = .slice (some ⟨bM, oM, none⟩) ms.length cM), (fun u _ => u = .int .i64 i), (fun u _ => u = .pointer (some ⟨bM, oM + i, none⟩)), (fun u _ => u = .int .i64 0), (fun u _ => u = .bool true), (fun u _ => u = .bool true), (fun u _ => u = .pointer (some ⟨Qa, 1, none⟩)), (fun u _ => u = .slice (some ⟨bK, oK, none⟩) K.length da), (fun u _ => u = .int .i64 i), (fun u _ => u = .pointer (some ⟨bK, oK + i, none⟩)), (fun u _ => u = .int .i64 0), (fun u _ => u = .bool false), (fun u _ => u = .bool false), (fun u _ => u = .bool false), (fun u _ => u = .pointer (some ⟨wo.heap.size, 3, none⟩)), (fun u _ => u = .slice (some ⟨bM, oM, none⟩) ms.length cM), (fun u _ => u = .int .i64 i), (fun u _ => u = .pointer (some ⟨bM, oM + i, none⟩)), (fun u _ => u = .int .i64 0), (fun u _ => u = .bool false), (fun u _ => u = .bool false), (fun u _ => u = undef), (fun u _ => u = undef), (fun u _ => u = undef), (fun u _ => u = undef), (fun u _ => u = undef), (fun u _ => u = undef), (fun u _ => u = undef), (fun u _ => u = undef), (fun u _ => u = undef), (fun u _ => u = undef), (fun u _ => u = undef), (fun u _ => u = undef), (fun u _ => u = .bool false), (fun u _ => u = .bool false)] [some 95, some 96, some 97, some 98, some 99, some 100, some 101, some 102, some 103, some 104, some 105, some 106, some 107, some 108, some 109, some 110, some 111, some 112, some 113, some 114, some 115, some 116, some 117, some 118, some 119, some 120, some 121, some 122, some 123, some 124, some 125, some 126, some 127, some 128, some 129, some 130] #[true, true, true, true, true, true, true, true, true, true, true, true, true, true, true, true, true, true, true, true, true, true, true, true, true, true, true, true, true, true, true, true, true, true, true, true] #[true, true, true, true, true, true, true, true, true, true, true, true, true, true, true, true, true, true, true, true, true, true, true, true, true, true, true, true, true, true, true, true, true, true, true, true] (by kernel_rfl) rfl (by kernel_rfl) (by kernel_rfl) rfl (by kernel_rfl) (by kernel_rfl) (.cons (carries_eq _) (.cons (carries_eq _) (.cons (carries_eq _) (.cons (carries_eq _) (.cons (carries_eq _) (.cons (carries_eq _) (.cons (carries_eq _) (.cons (carries_eq _) (.cons (carries_eq _) (.cons (carries_eq _) (.cons (carries_eq _) (.cons (carries_eq _) (.cons (carries_eq _) (.cons (carries_eq _) (.cons (carries_eq _) (.cons (carries_eq _) (.cons (carries_eq _) (.cons (carries_eq _) (.cons (carries_eq _) (.cons (carries_eq _) (.cons (carries_eq _) (.cons (carries_eq _) (.cons (carries_eq _) (.cons (carries_eq _) (.cons (carries_eq _) (.cons (carries_eq _) (.cons (carries_eq _) (.cons (carries_eq _) (.cons (carries_eq _) (.cons (carries_eq _) (.cons (carries_eq _) (.cons (carries_eq _) (.cons (carries_eq _) (.cons (carries_eq _) (.cons (carries_eq _) (.cons (carries_eq _) .nil)))))))))))))))))))))))))))))))))))) (fun vs b hvl hvb => ?_)
                        obtain ⟨x0, x1, x2, x3, x4, x5, x6, x7, x8, x9, x10, x11, x12, x13, x14, x15, x16, x17, x18, x19, x20, x21, x22, x23, x24, x25, x26, x27, x28, x29, x30, x31, x32, x33, x34, x35, rfl⟩ : ∃ x0 x1 x2 x3 x4 x5 x6 x7 x8 x9 x10 x11 x12 x13 x14 x15 x16 x17 x18 x19 x20 x21 x22 x23 x24 x25 x26 x27 x28 x29 x30 x31 x32 x33 x34 x35, vs = [x0, x1, x2, x3, x4, x5, x6, x7, x8, x9, x10, x11, x12, x13, x14, x15, x16, x17, x18, x19, x20, x21, x22, x23, x24, x25, x26, x27, x28, x29, x30, x31, x32, x33, x34, x35] := lst36 hvl
                        clear hvl
                        simp only [putAll, Act.put, List.setIfInBounds_toArray, List.set_cons_zero, List.set_cons_succ] at hvb
                        subst hvb
                        refine ⟨(.snoc (.snoc (.snoc (.snoc (.snoc (.snoc (.snoc (.snoc (.snoc (.snoc (.snoc (.snoc (.snoc (.snoc (.snoc (.snoc (.snoc (.snoc (.snoc (.snoc (.snoc (.snoc (.snoc (.snoc (.snoc (.snoc (.snoc (.snoc (.snoc (.snoc (.snoc (.snoc (.snoc (.snoc (.snoc (.snoc .zero (PartOb.intro (d := (some 95)) (r := fun u _ => u = .pointer (some ⟨wo.heap.size, 3, none⟩)) rfl rfl rfl rfl ?po16x0)) (PartOb.intro (d := (some 96)) (r := fun u _ => u = .slice (some ⟨bM, oM, none⟩) ms.length cM) rfl rfl rfl rfl ?po16x1)) (PartOb.intro (d := (some 97)) (r := fun u _ => u = .int .i64 i) rfl rfl rfl rfl ?po16x2)) (PartOb.intro (d := (some 98)) (r := fun u _ => u = .pointer (some ⟨bM, oM + i, none⟩)) rfl rfl rfl rfl ?po16x3)) (PartOb.intro (d := (some 99)) (r := fun u _ => u = .int .i64 0) rfl rfl rfl rfl ?po16x4)) (PartOb.intro (d := (some 100)) (r := fun u _ => u = .bool true) rfl rfl rfl rfl ?po16x5)) (PartOb.intro (d := (some 101)) (r := fun u _ => u = .bool true) rfl rfl rfl rfl ?po16x6)) (PartOb.intro (d := (some 102)) (r := fun u _ => u = .pointer (some ⟨Qa, 1, none⟩)) rfl rfl rfl rfl ?po16x7)) (PartOb.intro (d := (some 103)) (r := fun u _ => u = .slice (some ⟨bK, oK, none⟩) K.length da) rfl rfl rfl rfl ?po16x8)) (PartOb.intro (d := (some 104)) (r := fun u _ => u = .int .i64 i) rfl rfl rfl rfl ?po16x9)) (PartOb.intro (d := (some 105)) (r := fun u _ => u = .pointer (some ⟨bK, oK + i, none⟩)) rfl rfl rfl rfl ?po16x10)) (PartOb.intro (d := (some 106)) (r := fun u _ => u = .int .i64 0) rfl rfl rfl rfl ?po16x11)) (PartOb.intro (d := (some 107)) (r := fun u _ => u = .bool false) rfl rfl rfl rfl ?po16x12)) (PartOb.intro (d := (some 108)) (r := fun u _ => u = .bool false) rfl rfl rfl rfl ?po16x13)) (PartOb.intro (d := (some 109)) (r := fun u _ => u = .bool false) rfl rfl rfl rfl ?po16x14)) (PartOb.intro (d := (some 110)) (r := fun u _ => u = .pointer (some ⟨wo.heap.size, 3, none⟩)) rfl rfl rfl rfl ?po16x15)) (PartOb.intro (d := (some 111)) (r := fun u _ => u = .slice (some ⟨bM, oM, none⟩) ms.length cM) rfl rfl rfl rfl ?po16x16)) (PartOb.intro (d := (some 112)) (r := fun u _ => u = .int .i64 i) rfl rfl rfl rfl ?po16x17)) (PartOb.intro (d := (some 113)) (r := fun u _ => u = .pointer (some ⟨bM, oM + i, none⟩)) rfl rfl rfl rfl ?po16x18)) (PartOb.intro (d := (some 114)) (r := fun u _ => u = .int .i64 0) rfl rfl rfl rfl ?po16x19)) (PartOb.intro (d := (some 115)) (r := fun u _ => u = .bool false) rfl rfl rfl rfl ?po16x20)) (PartOb.intro (d := (some 116)) (r := fun u _ => u = .bool false) rfl rfl rfl rfl ?po16x21)) (PartOb.intro (d := (some 117)) (r := fun u _ => u = undef) rfl rfl rfl rfl ?po16x22)) (PartOb.intro (d := (some 118)) (r := fun u _ => u = undef) rfl rfl rfl rfl ?po16x23)) (PartOb.intro (d := (some 119)) (r := fun u _ => u = undef) rfl rfl rfl rfl ?po16x24)) (PartOb.intro (d := (some 120)) (r := fun u _ => u = undef) rfl rfl rfl rfl ?po16x25)) (PartOb.intro (d := (some 121)) (r := fun u _ => u = undef) rfl rfl rfl rfl ?po16x26)) (PartOb.intro (d := (some 122)) (r := fun u _ => u = undef) rfl rfl rfl rfl ?po16x27)) (PartOb.intro (d := (some 123)) (r := fun u _ => u = undef) rfl rfl rfl rfl ?po16x28)) (PartOb.intro (d := (some 124)) (r := fun u _ => u = undef) rfl rfl rfl rfl ?po16x29)) (PartOb.intro (d := (some 125)) (r := fun u _ => u = undef) rfl rfl rfl rfl ?po16x30)) (PartOb.intro (d := (some 126)) (r := fun u _ => u = undef) rfl rfl rfl rfl ?po16x31)) (PartOb.intro (d := (some 127)) (r := fun u _ => u = undef) rfl rfl rfl rfl ?po16x32)) (PartOb.intro (d := (some 128)) (r := fun u _ => u = undef) rfl rfl rfl rfl ?po16x33)) (PartOb.intro (d := (some 129)) (r := fun u _ => u = .bool false) rfl rfl rfl rfl ?po16x34)) (PartOb.intro (d := (some 130)) (r := fun u _ => u = .bool false) rfl rfl rfl rfl ?po16x35)), ?pend16, ?pfl16⟩
                        case po16x0 =>
                          intro w1 hb1 hd KK hK
                          clear hd
                          simp only [Act.put, List.setIfInBounds_toArray, List.set_cons_zero, List.set_cons_succ] at hK
                          go_simp
                          first | exact hK.out _ _ (Below.refl _ _) rfl | (have hk := hK.out _ _ (Below.refl _ _) rfl; revert hk; go_simp)
                        case po16x1 =>
                          intro w1 hb1 hd KK hK
                          have d0 : x0 = .pointer (some ⟨wo.heap.size, 3, none⟩) := hd 0 (by kernel_rfl)
                          clear hd
                          subst d0
                          have hc := (E.next hb1).cellN 7 rfl
                          simp only [Act.put, List.setIfInBounds_toArray, List.set_cons_zero, List.set_cons_succ] at hK
                          go_simp
                          first | exact hK.out _ _ (Below.refl _ _) rfl | (have hk := hK.out _ _ (Below.refl _ _) rfl; revert hk; go_simp)
                        case po16x2 =>
                          intro w1 hb1 hd KK hK
                          clear hd
                          simp only [Act.put, List.setIfInBounds_toArray, List.set_cons_zero, List.set_cons_succ] at hK
                          go_simp
                          first | exact hK.out _ _ (Below.refl _ _) rfl | (have hk := hK.out _ _ (Below.refl _ _) rfl; revert hk; go_simp)
                        case po16x3 =>
                          intro w1 hb1 hd KK hK
                          have d1 : x1 = .slice (some ⟨bM, oM, none⟩) ms.length cM := hd 1 (by kernel_rfl)
                          have d2 : x2 = .int .i64 i := hd 2 (by kernel_rfl)
                          clear hd
                          subst d1
                          subst d2
                          simp only [Act.put, List.setIfInBounds_toArray, List.set_cons_zero, List.set_cons_succ] at hK
                          go_simp
                          first | exact hK.out _ _ (Below.refl _ _) rfl | (have hk := hK.out _ _ (Below.refl _ _) rfl; revert hk; go_simp)
                        case po16x4 =>
                          intro w1 hb1 hd KK hK
                          have d3 : x3 = .pointer (some ⟨bM, oM + i, none⟩) := hd 3 (by kernel_rfl)
                          clear hd
                          subst d3
                          have hxM := (hb1.cell (p := ⟨bM, oM + i, none⟩) (by have h := HL2.out; first | exact h.1 | exact h.2.1 | exact h.2.2)).trans CM.out
                          simp only [Act.put, List.setIfInBounds_toArray, List.set_cons_zero, List.set_cons_succ] at hK
                          go_simp
                          first | exact hK.out _ _ (Below.refl _ _) rfl | (have hk := hK.out _ _ (Below.refl _ _) rfl; revert hk; go_simp)
                        case po16x5 =>
                          intro w1 hb1 hd KK hK
                          have d4 : x4 = .int .i64 0 := hd 4 (by kernel_rfl)
                          clear hd
                          subst d4
                          simp only [Act.put, List.setIfInBounds_toArray, List.set_cons_zero, List.set_cons_succ] at hK
                          go_simp
                          first | exact hK.out _ _ (Below.refl _ _) rfl | (have hk := hK.out _ _ (Below.refl _ _) rfl; revert hk; go_simp)
                        case po16x6 =>
                          intro w1 hb1 hd KK hK
                          have d5 : x5 = .bool true := hd 5 (by kernel_rfl)
                          clear hd
                          subst d5
                          simp only [Act.put, List.setIfInBounds_toArray, List.set_cons_zero, List.set_cons_succ] at hK
                          go_simp
                          first | exact hK.out _ _ (Below.refl _ _) rfl | (have hk := hK.out _ _ (Below.refl _ _) rfl; revert hk; go_simp)
                        case po16x7 =>
                          intro w1 hb1 hd KK hK
                          have d6 : x6 = .bool true := hd 6 (by kernel_rfl)
                          clear hd
                          subst d6
                          simp only [Act.put, List.setIfInBounds_toArray, List.set_cons_zero, List.set_cons_succ] at hK
                          go_simp
                          first | exact hK.out _ _ (Below.refl _ _) rfl | (have hk := hK.out _ _ (Below.refl _ _) rfl; revert hk; go_simp)
                        case po16x8 =>
                          intro w1 hb1 hd KK hK
                          have d6 : x6 = .bool true := hd 6 (by kernel_rfl)
                          have d7 : x7 = .pointer (some ⟨Qa, 1, none⟩) := hd 7 (by kernel_rfl)
                          clear hd
                          subst d6
                          subst d7
                          have hc := (E.next hb1).cellN 3 rfl
                          simp only [Act.put, List.setIfInBounds_toArray, List.set_cons_zero, List.set_cons_succ] at hK
                          go_simp
                          first | exact hK.out _ _ (Below.refl _ _) rfl | (have hk := hK.out _ _ (Below.refl _ _) rfl; revert hk; go_simp)
                        case po16x9 =>
                          intro w1 hb1 hd KK hK
                          have d6 : x6 = .bool true := hd 6 (by kernel_rfl)
                          clear hd
                          subst d6
                          simp only [Act.put, List.setIfInBounds_toArray, List.set_cons_zero, List.set_cons_succ] at hK
                          go_simp
                          first | exact hK.out _ _ (Below.refl _ _) rfl | (have hk := hK.out _ _ (Below.refl _ _) rfl; revert hk; go_simp)
                        case po16x10 =>
                          intro w1 hb1 hd KK hK
                          have d6 : x6 = .bool true := hd 6 (by kernel_rfl)
                          have d8 : x8 = .slice (some ⟨bK, oK, none⟩) K.length da := hd 8 (by kernel_rfl)
                          have d9 : x9 = .int .i64 i := hd 9 (by kernel_rfl)
                          clear hd
                          subst d6
                          subst d8
                          subst d9
                          simp only [Act.put, List.setIfInBounds_toArray, List.set_cons_zero, List.set_cons_succ] at hK
                          go_simp
                          first | exact hK.out _ _ (Below.refl _ _) rfl | (have hk := hK.out _ _ (Below.refl _ _) rfl; revert hk; go_simp)
                        case po16x11 =>
                          intro w1 hb1 hd KK hK
                          have d6 : x6 = .bool true := hd 6 (by kernel_rfl)
                          have d10 : x10 = .pointer (some ⟨bK, oK + i, none⟩) := hd 10 (by kernel_rfl)
                          clear hd
                          subst d6
                          subst d10
                          have hxK := (hb1.cell (p := ⟨bK, oK + i, none⟩) (by have h := HL2.out; first | exact h.1 | exact h.2.1 | exact h.2.2)).trans CK.out
                          simp only [Act.put, List.setIfInBounds_toArray, List.set_cons_zero, List.set_cons_succ] at hK
                          go_simp
                          first | exact hK.out _ _ (Below.refl _ _) rfl | (have hk := hK.out _ _ (Below.refl _ _) rfl; revert hk; go_simp)
                        case po16x12 =>
                          intro w1 hb1 hd KK hK
                          have d6 : x6 = .bool true := hd 6 (by kernel_rfl)
                          have d11 : x11 = .int .i64 0 := hd 11 (by kernel_rfl)
                          clear hd
                          subst d6
                          subst d11
                          simp only [Act.put, List.setIfInBounds_toArray, List.set_cons_zero, List.set_cons_succ] at hK
                          go_simp
                          first | exact hK.out _ _ (Below.refl _ _) rfl | (have hk := hK.out _ _ (Below.refl _ _) rfl; revert hk; go_simp)
                        case po16x13 =>
                          intro w1 hb1 hd KK hK
                          have d6 : x6 = .bool true := hd 6 (by kernel_rfl)
                          have d12 : x12 = .bool false := hd 12 (by kernel_rfl)
                          clear hd
                          subst d6
                          subst d12
                          simp only [Act.put, List.setIfInBounds_toArray, List.set_cons_zero, List.set_cons_succ] at hK
                          go_simp
                          first | exact hK.out _ _ (Below.refl _ _) rfl | (have hk := hK.out _ _ (Below.refl _ _) rfl; revert hk; go_simp)
                        case po16x14 =>
                          intro w1 hb1 hd KK hK
                          have d6 : x6 = .bool true := hd 6 (by kernel_rfl)
                          have d13 : x13 = .bool false := hd 13 (by kernel_rfl)
                          clear hd
                          subst d6
                          subst d13
                          simp only [Act.put, List.setIfInBounds_toArray, List.set_cons_zero, List.set_cons_succ] at hK
                          go_simp
                          first | exact hK.out _ _ (Below.refl _ _) rfl | (have hk := hK.out _ _ (Below.refl _ _) rfl; revert hk; go_simp)
                        case po16x15 =>
                          intro w1 hb1 hd KK hK
                          have d14 : x14 = .bool false := hd 14 (by kernel_rfl)
                          clear hd
                          subst d14
                          simp only [Act.put, List.setIfInBounds_toArray, List.set_cons_zero, List.set_cons_succ] at hK
                          go_simp
                          first | exact hK.out _ _ (Below.refl _ _) rfl | (have hk := hK.out _ _ (Below.refl _ _) rfl; revert hk; go_simp)
                        case po16x16 =>
                          intro w1 hb1 hd KK hK
                          have d14 : x14 = .bool false := hd 14 (by kernel_rfl)
                          have d15 : x15 = .pointer (some ⟨wo.heap.size, 3, none⟩) := hd 15 (by kernel_rfl)
                          clear hd
                          subst d14
                          subst d15
                          have hc := (E.next hb1).cellN 7 rfl
                          simp only [Act.put, List.setIfInBounds_toArray, List.set_cons_zero, List.set_cons_succ] at hK
                          go_simp
                          first | exact hK.out _ _ (Below.refl _ _) rfl | (have hk := hK.out _ _ (Below.refl _ _) rfl; revert hk; go_simp)
                        case po16x17 =>
                          intro w1 hb1 hd KK hK
                          have d14 : x14 = .bool false := hd 14 (by kernel_rfl)
                          clear hd
                          subst d14
                          simp only [Act.put, List.setIfInBounds_toArray, List.set_cons_zero, List.set_cons_succ] at hK
                          go_simp
                          first | exact hK.out _ _ (Below.refl _ _) rfl | (have hk := hK.out _ _ (Below.refl _ _) rfl; revert hk; go_simp)
                        case po16x18 =>
                          intro w1 hb1 hd KK hK
                          have d14 : x14 = .bool false := hd 14 (by kernel_rfl)
                          have d16 : x16 = .slice (some ⟨bM, oM, none⟩) ms.length cM := hd 16 (by kernel_rfl)
                          have d17 : x17 = .int .i64 i := hd 17 (by kernel_rfl)
                          clear hd
                          subst d14
                          subst d16
                          subst d17
                          simp only [Act.put, List.setIfInBounds_toArray, List.set_cons_zero, List.set_cons_succ] at hK
                          go_simp
                          first | exact hK.out _ _ (Below.refl _ _) rfl | (have hk := hK.out _ _ (Below.refl _ _) rfl; revert hk; go_simp)
                        case po16x19 =>
                          intro w1 hb1 hd KK hK
                          have d14 : x14 = .bool false := hd 14 (by kernel_rfl)
                          have d18 : x18 = .pointer (some ⟨bM, oM + i, none⟩) := hd 18 (by kernel_rfl)
                          clear hd
                          subst d14
                          subst d18
                          have hxM := (hb1.cell (p := ⟨bM, oM + i, none⟩) (by have h := HL2.out; first | exact h.1 | exact h.2.1 | exact h.2.2)).trans CM.out
                          simp only [Act.put, List.setIfInBounds_toArray, List.set_cons_zero, List.set_cons_succ] at hK
                          go_simp
                          first | exact hK.out _ _ (Below.refl _ _) rfl | (have hk := hK.out _ _ (Below.refl _ _) rfl; revert hk; go_simp)
                        case po16x20 =>
                          intro w1 hb1 hd KK hK
                          have d14 : x14 = .bool false := hd 14 (by kernel_rfl)
                          have d19 : x19 = .int .i64 0 := hd 19 (by kernel_rfl)
                          clear hd
                          subst d14
                          subst d19
                          simp only [Act.put, List.setIfInBounds_toArray, List.set_cons_zero, List.set_cons_succ] at hK
                          go_simp
                          first | exact hK.out _ _ (Below.refl _ _) rfl | (have hk := hK.out _ _ (Below.refl _ _) rfl; revert hk; go_simp)
                        case po16x21 =>
                          intro w1 hb1 hd KK hK
                          have d14 : x14 = .bool false := hd 14 (by kernel_rfl)
                          have d20 : x20 = .bool false := hd 20 (by kernel_rfl)
                          clear hd
                          subst d14
                          subst d20
                          simp only [Act.put, List.setIfInBounds_toArray, List.set_cons_zero, List.set_cons_succ] at hK
                          go_simp
                          first | exact hK.out _ _ (Below.refl _ _) rfl | (have hk := hK.out _ _ (Below.refl _ _) rfl; revert hk; go_simp)
                        case po16x22 =>
                          intro w1 hb1 hd KK hK
                          have d21 : x21 = .bool false := hd 21 (by kernel_rfl)
                          clear hd
                          subst d21
                          simp only [Act.put, List.setIfInBounds_toArray, List.set_cons_zero, List.set_cons_succ] at hK
                          go_simp
                          first | exact hK.out _ _ (Below.refl _ _) rfl | (have hk := hK.out _ _ (Below.refl _ _) rfl; revert hk; go_simp)
                        case po16x23 =>
                          intro w1 hb1 hd KK hK
                          have d21 : x21 = .bool false := hd 21 (by kernel_rfl)
                          have d22 : x22 = undef := hd 22 (by kernel_rfl)
                          clear hd
                          subst d21
                          subst d22
                          simp only [Act.put, List.setIfInBounds_toArray, List.set_cons_zero, List.set_cons_succ] at hK
                          go_simp
                          first | exact hK.out _ _ (Below.refl _ _) rfl | (have hk := hK.out _ _ (Below.refl _ _) rfl; revert hk; go_simp)
                        case po16x24 =>
                          intro w1 hb1 hd KK hK
                          have d21 : x21 = .bool false := hd 21 (by kernel_rfl)
                          clear hd
                          subst d21
                          simp only [Act.put, List.setIfInBounds_toArray, List.set_cons_zero, List.set_cons_succ] at hK
                          go_simp
                          first | exact hK.out _ _ (Below.refl _ _) rfl | (have hk := hK.out _ _ (Below.refl _ _) rfl; revert hk; go_simp)
                        case po16x25 =>
                          intro w1 hb1 hd KK hK
                          have d21 : x21 = .bool false := hd 21 (by kernel_rfl)
                          have d23 : x23 = undef := hd 23 (by kernel_rfl)
                          have d24 : x24 = undef := hd 24 (by kernel_rfl)
                          clear hd
                          subst d21
                          subst d23
                          subst d24
                          simp only [Act.put, List.setIfInBounds_toArray, List.set_cons_zero, List.set_cons_succ] at hK
                          go_simp
                          first | exact hK.out _ _ (Below.refl _ _) rfl | (have hk := hK.out _ _ (Below.refl _ _) rfl; revert hk; go_simp)
                        case po16x26 =>
                          intro w1 hb1 hd KK hK
                          have d21 : x21 = .bool false := hd 21 (by kernel_rfl)
                          have d25 : x25 = undef := hd 25 (by kernel_rfl)
                          clear hd
                          subst d21
                          subst d25
                          simp only [Act.put, List.setIfInBounds_toArray, List.set_cons_zero, List.set_cons_succ] at hK
                          go_simp
                          first | exact hK.out _ _ (Below.refl _ _) rfl | (have hk := hK.out _ _ (Below.refl _ _) rfl; revert hk; go_simp)
                        case po16x27 =>
                          intro w1 hb1 hd KK hK
                          have d21 : x21 = .bool false := hd 21 (by kernel_rfl)
                          clear hd
                          subst d21
                          simp only [Act.put, List.setIfInBounds_toArray, List.set_cons_zero, List.set_cons_succ] at hK
                          go_simp
                          first | exact hK.out _ _ (Below.refl _ _) rfl | (have hk := hK.out _ _ (Below.refl _ _) rfl; revert hk; go_simp)
                        case po16x28 =>
                          intro w1 hb1 hd KK hK
                          have d21 : x21 = .bool false := hd 21 (by kernel_rfl)
                          have d27 : x27 = undef := hd 27 (by kernel_rfl)
                          clear hd
                          subst d21
                          subst d27
                          simp only [Act.put, List.setIfInBounds_toArray, List.set_cons_zero, List.set_cons_succ] at hK
                          go_simp
                          first | exact hK.out _ _ (Below.refl _ _) rfl | (have hk := hK.out _ _ (Below.refl _ _) rfl; revert hk; go_simp)
                        case po16x29 =>
                          intro w1 hb1 hd KK hK
                          have d21 : x21 = .bool false := hd 21 (by kernel_rfl)
                          have d28 : x28 = undef := hd 28 (by kernel_rfl)
                          clear hd
                          subst d21
                          subst d28
                          simp only [Act.put, List.setIfInBounds_toArray, List.set_cons_zero, List.set_cons_succ] at hK
                          go_simp
                          first | exact hK.out _ _ (Below.refl _ _) rfl | (have hk := hK.out _ _ (Below.refl _ _) rfl; revert hk; go_simp)
                        case po16x30 =>
                          intro w1 hb1 hd KK hK
                          have d21 : x21 = .bool false := hd 21 (by kernel_rfl)
                          clear hd
                          subst d21
                          simp only [Act.put, List.setIfInBounds_toArray, List.set_cons_zero, List.set_cons_succ] at hK
                          go_simp
                          first | exact hK.out _ _ (Below.refl _ _) rfl | (have hk := hK.out _ _ (Below.refl _ _) rfl; revert hk; go_simp)
                        case po16x31 =>
                          intro w1 hb1 hd KK hK
                          have d21 : x21 = .bool false := hd 21 (by kernel_rfl)
                          have d29 : x29 = undef := hd 29 (by kernel_rfl)
                          have d30 : x30 = undef := hd 30 (by kernel_rfl)
                          clear hd
                          subst d21
                          subst d29
                          subst d30
                          simp only [Act.put, List.setIfInBounds_toArray, List.set_cons_zero, List.set_cons_succ] at hK
                          go_simp
                          first | exact hK.out _ _ (Below.refl _ _) rfl | (have hk := hK.out _ _ (Below.refl _ _) rfl; revert hk; go_simp)
                        case po16x32 =>
                          intro w1 hb1 hd KK hK
                          have d21 : x21 = .bool false := hd 21 (by kernel_rfl)
                          have d31 : x31 = undef := hd 31 (by kernel_rfl)
                          clear hd
                          subst d21
                          subst d31
                          simp only [Act.put, List.setIfInBounds_toArray, List.set_cons_zero, List.set_cons_succ] at hK
                          go_simp
                          first | exact hK.out _ _ (Below.refl _ _) rfl | (have hk := hK.out _ _ (Below.refl _ _) rfl; revert hk; go_simp)
                        case po16x33 =>
                          intro w1 hb1 hd KK hK
                          have d21 : x21 = .bool false := hd 21 (by kernel_rfl)
                          have d26 : x26 = undef := hd 26 (by kernel_rfl)
                          have d32 : x32 = undef := hd 32 (by kernel_rfl)
                          clear hd
                          subst d21
                          subst d26
                          subst d32
                          simp only [Act.put, List.setIfInBounds_toArray, List.set_cons_zero, List.set_cons_succ] at hK
                          go_simp
                          first | exact hK.out _ _ (Below.refl _ _) rfl | (have hk := hK.out _ _ (Below.refl _ _) rfl; revert hk; go_simp)
                        case po16x34 =>
                          intro w1 hb1 hd KK hK
                          have d14 : x14 = .bool false := hd 14 (by kernel_rfl)
                          have d21 : x21 = .bool false := hd 21 (by kernel_rfl)
                          have d33 : x33 = undef := hd 33 (by kernel_rfl)
                          clear hd
                          subst d14
                          subst d21
                          subst d33
                          simp only [Act.put, List.setIfInBounds_toArray, List.set_cons_zero, List.set_cons_succ] at hK
                          go_simp
                          first | exact hK.out _ _ (Below.refl _ _) rfl | (have hk := hK.out _ _ (Below.refl _ _) rfl; revert hk; go_simp)
                        case po16x35 =>
                          intro w1 hb1 hd KK hK
                          have d14 : x14 = .bool false := hd 14 (by kernel_rfl)
                          have d34 : x34 = .bool false := hd 34 (by kernel_rfl)
                          clear hd
                          subst d14
                          subst d34
                          simp only [Act.put, List.setIfInBounds_toArray, List.set_cons_zero, List.set_cons_succ] at hK
                          go_simp
                          first | exact hK.out _ _ (Below.refl _ _) rfl | (have hk := hK.out _ _ (Below.refl _ _) rfl; revert hk; go_simp)
                        case pfl16 => (intro f hf; cases hf)
                        case pend16 =>
                        intro w1 hb1 hR hD
                        have d0 : x0 = .pointer (some ⟨wo.heap.size, 3, none⟩) := hR 0 (by decide)
                        have d1 : x1 = .slice (some ⟨bM, oM, none⟩) ms.length cM := hR 1 (by decide)
                        have d2 : x2 = .int .i64 i := hR 2 (by decide)
                        have d3 : x3 = .pointer (some ⟨bM, oM + i, none⟩) := hR 3 (by decide)
                        have d4 : x4 = .int .i64 0 := hR 4 (by decide)
                        have d5 : x5 = .bool true := hR 5 (by decide)
                        have d6 : x6 = .bool true := hR 6 (by decide)
                        have d7 : x7 = .pointer (some ⟨Qa, 1, none⟩) := hR 7 (by decide)
                        have d8 : x8 = .slice (some ⟨bK, oK, none⟩) K.length da := hR 8 (by decide)
                        have d9 : x9 = .int .i64 i := hR 9 (by decide)
                        have d10 : x10 = .pointer (some ⟨bK, oK + i, none⟩) := hR 10 (by decide)
                        have d11 : x11 = .int .i64 0 := hR 11 (by decide)
                        have d12 : x12 = .bool false := hR 12 (by decide)
                        have d13 : x13 = .bool false := hR 13 (by decide)
                        have d14 : x14 = .bool false := hR 14 (by decide)
                        have d15 : x15 = .pointer (some ⟨wo.heap.size, 3, none⟩) := hR 15 (by decide)
                        have d16 : x16 = .slice (some ⟨bM, oM, none⟩) ms.length cM := hR 16 (by decide)
                        have d17 : x17 = .int .i64 i := hR 17 (by decide)
                        have d18 : x18 = .pointer (some ⟨bM, oM + i, none⟩) := hR 18 (by decide)
                        have d19 : x19 = .int .i64 0 := hR 19 (by decide)
                        have d20 : x20 = .bool false := hR 20 (by decide)
                        have d21 : x21 = .bool false := hR 21 (by decide)
                        have d22 : x22 = undef := hR 22 (by decide)
                        have d23 : x23 = undef := hR 23 (by decide)
                        have d24 : x24 = undef := hR 24 (by decide)
                        have d25 : x25 = undef := hR 25 (by decide)
                        have d26 : x26 = undef := hR 26 (by decide)
                        have d27 : x27 = undef := hR 27 (by decide)
                        have d28 : x28 = undef := hR 28 (by decide)
                        have d29 : x29 = undef := hR 29 (by decide)
                        have d30 : x30 = undef := hR 30 (by decide)
                        have d31 : x31 = undef := hR 31 (by decide)
                        have d32 : x32 = undef := hR 32 (by decide)
                        have d33 : x33 = undef := hR 33 (by decide)
                        have d34 : x34 = .bool false := hR 34 (by decide)
                        have d35 : x35 = .bool false := hR 35 (by decide)
                        clear hR hD
                        subst d0
                        subst d1
                        subst d2
                        subst d3
                        subst d4
                        subst d5
                        subst d6
                        subst d7
                        subst d8
                        subst d9
                        subst d10
                        subst d11
                        subst d12
                        subst d13
                        subst d14
                        subst d15
                        subst d16
                        subst d17
                        subst d18
                        subst d19
                        subst d20
                        subst d21
                        subst d22
                        subst d23
                        subst d24
                        subst d25
                        subst d26
                        subst d27
                        subst d28
                        subst d29
                        subst d30
                        subst d31
                        subst d32
                        subst d33
                        subst d34
                        subst d35
                        refine wpAny_done (by kernel_rfl) ?_ _
                        have HBW := Lib.hid (HBI.out.trans (hb1.mono HBI.out.size))
                        clear hb1
                        go_wp2
                        go_roundw
                        case rel => exact ⟨i + 1, by omega, by go_num, HBW.out⟩
                        case measure => simp [intOf]; omega
                    · as_aux_lemma =>
                        have hmb : (m == 0) = false := by simp; exact hm
                        have hmb2 : (m != 0) = true := by simp; exact hm
                        rw [if_neg hm] at CK
                        skip
                        refine wp_region_parts2 (w := wi) 36 0 none [] [(fun u _ => u = .pointer (some ⟨wo.heap.size, 3, none⟩)), (fun u _ => u = .slice (some ⟨bM, oM, none⟩) ms.length cM), (fun u _ => u = .int .i64 i), (fun u _ => u = .pointer (some ⟨bM, oM + i, none⟩)), (fun u _ => u = .int .i64 m), (fun u _ => u = .bool false), (fun u _ => u = .bool false), (fun u _ => u = undef), (fun u _ => u = undef), (fun u _ => u = undef), (fun u _ => u = undef), (fun u _ => u = undef), (fun u _ => u = undef), (fun u _ => u = .bool false), (fun u _ => u = .bool false), (fun u _ => u = .pointer (some ⟨wo.heap.size, 3, none⟩)), (fun u _ => u = .slice (some ⟨bM, oM, none⟩) ms.length cM), (fun u _ => u = .int .i64 i), (fun u _ => u = .pointer (some ⟨bM, oM + i, none⟩)), (fun u _ => u = .int .i64 m), (fun u _ => u = .bool true), (fun u _ => u = .bool true), (fun u _ => u = .pointer (some ⟨Qa, 1, none⟩)), (fun u _ => u = .slice (some ⟨bK, oK, none⟩) K.length da), (fun u _ => u = .int .i64 i), (fun u _ => u = .pointer (some ⟨bK, oK + i, none⟩)), (fun u _ => u = .int .i64 y), (fun u _ => u = .pointer (some ⟨wo.heap.size, 0, none⟩)), (fun u _ => u = .pointer (some ⟨wo.heap.size, 1, none⟩)), (fun u _ => u = .slice (some ⟨bY, oY, none⟩) ysA.length dA), (fun u _ => u = .int .i64 i), (fun u _ => u = .pointer (some ⟨bY, oY + i, none⟩)), (fun u _ => u = .int .i64 y), (fun u _ => u = .bool false), (fun u _ => u = .bool false), (fun u _ => u = .bool false)] [some 95, some 96, some 97, some 98, some 99, some 100, some 101, some 102, some 103, some 104, some 105, some 106, some 107, some 108, some 109, some 110, some 111, some 112, some 113, some 114, some 115, some 116, some 117, some 118, some 119, some 120, some 121, some 122, some 123, some 124, some 125, some 126, some 127, some 128, some 129, some 130] #[true, true, true, true, true, true, true, true, true, true, true, true, true, true, true, true, true, true, true, true, true, true, true, true, true, true, true, true, true, true, true, true, true, true, true, true] #[true, true, true, true, true, true, true, true, true, true, true, true, true, true, true, true, true, true, true, true, true, true, true, true, true, true, true, true, true, true, true, true, true, true, true, true] (by kernel_rfl) rfl (by kernel_rfl) (by kernel_rfl) rfl (by kernel_rfl) (by kernel_rfl) (.cons (carries_eq _) (.cons (carries_eq _) (.cons (carries_eq _) (.cons (carries_eq _) (.cons (carries_eq _) (.cons (carries_eq _) (.cons (carries_eq _) (.cons (carries_eq _) (.cons (carries_eq _) (.cons (carries_eq _) (.cons (carries_eq _) (.cons (carries_eq _) (.cons (carries_eq _) (.cons (carries_eq _) (.cons (carries_eq _) (.cons (carries_eq _) (.cons (carries_eq _) (.cons (carries_eq _) (.cons (carries_eq _) (.cons (carries_eq _) (.cons (carries_eq _) (.cons (carries_eq _) (.cons (carries_eq _) (.cons (carries_eq _) (.cons (carries_eq _) (.cons (carries_eq _) (.cons (carries_eq _) (.cons (carries_eq _) (.cons (carries_eq _) (.cons (carries_eq _) (.cons (carries_eq _) (.cons (carries_eq _) (.cons (carries_eq _) (.cons (carries_eq _) (.cons (carries_eq _) (.cons (carries_eq _) .nil)))))))))))))))))))))))))))))))))))) (fun vs b hvl hvb => ?_)
                        obtain ⟨x0, x1, x2, x3, x4, x5, x6, x7, x8, x9, x10, x11, x12, x13, x14, x15, x16, x17, x18, x19, x20, x21, x22, x23, x24, x25, x26, x27, x28, x29, x30, x31, x32, x33, x34, x35, rfl⟩ : ∃ x0 x1 x2 x3 x4 x5 x6 x7 x8 x9 x10 x11 x12 x13 x14 x15 x16 x17 x18 x19 x20 x21 x22 x23 x24 x25 x26 x27 x28 x29 x30 x31 x32 x33 x34 x35, vs = [x0, x1, x2, x3, x4, x5, x6, x7, x8, x9, x10, x11, x12, x13, x14, x15, x16, x17, x18, x19, x20, x21, x22, x23, x24, x25, x26, x27, x28, x29, x30, x31, x32, x33, x34, x35] := lst36 hvl
                        clear hvl
                        simp only [putAll, Act.put, List.setIfInBounds_toArray, List.set_cons_zero, List.set_cons_succ] at hvb
                        subst hvb
                        refine ⟨(.snoc (.snoc (.snoc (.snoc (.snoc (.snoc (.snoc (.snoc (.snoc (.snoc (.snoc (.snoc (.snoc (.snoc (.snoc (.snoc (.snoc (.snoc (.snoc (.snoc (.snoc (.snoc (.snoc (.snoc (.snoc (.snoc (.snoc (.snoc (.snoc (.snoc (.snoc (.snoc (.snoc (.snoc (.snoc (.snoc .zero (PartOb.intro (d := (some 95)) (r := fun u _ => u = .pointer (some ⟨wo.heap.size, 3, none⟩)) rfl rfl rfl rfl ?po16x0)) (PartOb.intro (d := (some 96)) (r := fun u _ => u = .slice (some ⟨bM, oM, none⟩) ms.length cM) rfl rfl rfl rfl ?po16x1)) (PartOb.intro (d := (some 97)) (r := fun u _ => u = .int .i64 i) rfl rfl rfl rfl ?po16x2)) (PartOb.intro (d := (some 98)) (r := fun u _ => u = .pointer (some ⟨bM, oM + i, none⟩)) rfl rfl rfl rfl ?po16x3)) (PartOb.intro (d := (some 99)) (r := fun u _ => u = .int .i64 m) rfl rfl rfl rfl ?po16x4)) (PartOb.intro (d := (some 100)) (r := fun u _ => u = .bool false) rfl rfl rfl rfl ?po16x5)) (PartOb.intro (d := (some 101)) (r := fun u _ => u = .bool false) rfl rfl rfl rfl ?po16x6)) (PartOb.intro (d := (some 102)) (r := fun u _ => u = undef) rfl rfl rfl rfl ?po16x7)) (PartOb.intro (d := (some 103)) (r := fun u _ => u = undef) rfl rfl rfl rfl ?po16x8)) (PartOb.intro (d := (some 104)) (r := fun u _ => u = undef) rfl rfl rfl rfl ?po16x9)) (PartOb.intro (d := (some 105)) (r := fun u _ => u = undef) rfl rfl rfl rfl ?po16x10)) (PartOb.intro (d := (some 106)) (r := fun u _ => u = undef) rfl rfl rfl rfl ?po16x11)) (PartOb.intro (d := (some 107)) (r := fun u _ => u = undef) rfl rfl rfl rfl ?po16x12)) (PartOb.intro (d := (some 108)) (r := fun u _ => u = .bool false) rfl rfl rfl rfl ?po16x13)) (PartOb.intro (d := (some 109)) (r := fun u _ => u = .bool false) rfl rfl rfl rfl ?po16x14)) (PartOb.intro (d := (some 110)) (r := fun u _ => u = .pointer (some ⟨wo.heap.size, 3, none⟩)) rfl rfl rfl rfl ?po16x15)) (PartOb.intro (d := (some 111)) (r := fun u _ => u = .slice (some ⟨bM, oM, none⟩) ms.length cM) rfl rfl rfl rfl ?po16x16)) (PartOb.intro (d := (some 112)) (r := fun u _ => u = .int .i64 i) rfl rfl rfl rfl ?po16x17)) (PartOb.intro (d := (some 113)) (r := fun u _ => u = .pointer (some ⟨bM, oM + i, none⟩)) rfl rfl rfl rfl ?po16x18)) (PartOb.intro (d := (some 114)) (r := fun u _ => u = .int .i64 m) rfl rfl rfl rfl ?po16x19)) (PartOb.intro (d := (some 115)) (r := fun u _ => u = .bool true) rfl rfl rfl rfl ?po16x20)) (PartOb.intro (d := (some 116)) (r := fun u _ => u = .bool true) rfl rfl rfl rfl ?po16x21)) (PartOb.intro (d := (some 117)) (r := fun u _ => u = .pointer (some ⟨Qa, 1, none⟩)) rfl rfl rfl rfl ?po16x22)) (PartOb.intro (d := (some 118)) (r := fun u _ => u = .slice (some ⟨bK, oK, none⟩) K.length da) rfl rfl rfl rfl ?po16x23)) (PartOb.intro (d := (some 119)) (r := fun u _ => u = .int .i64 i) rfl rfl rfl rfl ?po16x24)) (PartOb.intro (d := (some 120)) (r := fun u _ => u = .pointer (some ⟨bK, oK + i, none⟩)) rfl rfl rfl rfl ?po16x25)) (PartOb.intro (d := (some 121)) (r := fun u _ => u = .int .i64 y) rfl rfl rfl rfl ?po16x26)) (PartOb.intro (d := (some 122)) (r := fun u _ => u = .pointer (some ⟨wo.heap.size, 0, none⟩)) rfl rfl rfl rfl ?po16x27)) (PartOb.intro (d := (some 123)) (r := fun u _ => u = .pointer (some ⟨wo.heap.size, 1, none⟩)) rfl rfl rfl rfl ?po16x28)) (PartOb.intro (d := (some 124)) (r := fun u _ => u = .slice (some ⟨bY, oY, none⟩) ysA.length dA) rfl rfl rfl rfl ?po16x29)) (PartOb.intro (d := (some 125)) (r := fun u _ => u = .int .i64 i) rfl rfl rfl rfl ?po16x30)) (PartOb.intro (d := (some 126)) (r := fun u _ => u = .pointer (some ⟨bY, oY + i, none⟩)) rfl rfl rfl rfl ?po16x31)) (PartOb.intro (d := (some 127)) (r := fun u _ => u = .int .i64 y) rfl rfl rfl rfl ?po16x32)) (PartOb.intro (d := (some 128)) (r := fun u _ => u = .bool false) rfl rfl rfl rfl ?po16x33)) (PartOb.intro (d := (some 129)) (r := fun u _ => u = .bool false) rfl rfl rfl rfl ?po16x34)) (PartOb.intro (d := (some 130)) (r := fun u _ => u = .bool false) rfl rfl rfl rfl ?po16x35)), ?pend16, ?pfl16⟩
                        case po16x0 =>
                          intro w1 hb1 hd KK hK
                          clear hd
                          simp only [Act.put, List.setIfInBounds_toArray, List.set_cons_zero, List.set_cons_succ] at hK
                          go_simp
                          first | exact hK.out _ _ (Below.refl _ _) rfl | (have hk := hK.out _ _ (Below.refl _ _) rfl; revert hk; go_simp)
                        case po16x1 =>
                          intro w1 hb1 hd KK hK
                          have d0 : x0 = .pointer (some ⟨wo.heap.size, 3, none⟩) := hd 0 (by kernel_rfl)
                          clear hd
                          subst d0
                          have hc := (E.next hb1).cellN 7 rfl
                          simp only [Act.put, List.setIfInBounds_toArray, List.set_cons_zero, List.set_cons_succ] at hK
                          go_simp
                          first | exact hK.out _ _ (Below.refl _ _) rfl | (have hk := hK.out _ _ (Below.refl _ _) rfl; revert hk; go_simp)
                        case po16x2 =>
                          intro w1 hb1 hd KK hK
                          clear hd
                          simp only [Act.put, List.setIfInBounds_toArray, List.set_cons_zero, List.set_cons_succ] at hK
                          go_simp
                          first | exact hK.out _ _ (Below.refl _ _) rfl | (have hk := hK.out _ _ (Below.refl _ _) rfl; revert hk; go_simp)
                        case po16x3 =>
                          intro w1 hb1 hd KK hK
                          have d1 : x1 = .slice (some ⟨bM, oM, none⟩) ms.length cM := hd 1 (by kernel_rfl)
                          have d2 : x2 = .int .i64 i := hd 2 (by kernel_rfl)
                          clear hd
                          subst d1
                          subst d2
                          simp only [Act.put, List.setIfInBounds_toArray, List.set_cons_zero, List.set_cons_succ] at hK
                          go_simp
                          first | exact hK.out _ _ (Below.refl _ _) rfl | (have hk := hK.out _ _ (Below.refl _ _) rfl; revert hk; go_simp)
                        case po16x4 =>
                          intro w1 hb1 hd KK hK
                          have d3 : x3 = .pointer (some ⟨bM, oM + i, none⟩) := hd 3 (by kernel_rfl)
                          clear hd
                          subst d3
                          have hxM := (hb1.cell (p := ⟨bM, oM + i, none⟩) (by have h := HL2.out; first | exact h.1 | exact h.2.1 | exact h.2.2)).trans CM.out
                          simp only [Act.put, List.setIfInBounds_toArray, List.set_cons_zero, List.set_cons_succ] at hK
                          go_simp
                          first | exact hK.out _ _ (Below.refl _ _) rfl | (have hk := hK.out _ _ (Below.refl _ _) rfl; revert hk; go_simp)
                        case po16x5 =>
                          intro w1 hb1 hd KK hK
                          have d4 : x4 = .int .i64 m := hd 4 (by kernel_rfl)
                          clear hd
                          subst d4
                          simp only [Act.put, List.setIfInBounds_toArray, List.set_cons_zero, List.set_cons_succ] at hK
                          go_simp
                          first | exact hK.out _ _ (Below.refl _ _) rfl | (have hk := hK.out _ _ (Below.refl _ _) rfl; revert hk; go_simp)
                        case po16x6 =>
                          intro w1 hb1 hd KK hK
                          have d5 : x5 = .bool false := hd 5 (by kernel_rfl)
                          clear hd
                          subst d5
                          simp only [Act.put, List.setIfInBounds_toArray, List.set_cons_zero, List.set_cons_succ] at hK
                          go_simp
                          first | exact hK.out _ _ (Below.refl _ _) rfl | (have hk := hK.out _ _ (Below.refl _ _) rfl; revert hk; go_simp)
                        case po16x7 =>
                          intro w1 hb1 hd KK hK
                          have d6 : x6 = .bool false := hd 6 (by kernel_rfl)
                          clear hd
                          subst d6
                          simp only [Act.put, List.setIfInBounds_toArray, List.set_cons_zero, List.set_cons_succ] at hK
                          go_simp
                          first | exact hK.out _ _ (Below.refl _ _) rfl | (have hk := hK.out _ _ (Below.refl _ _) rfl; revert hk; go_simp)
                        case po16x8 =>
                          intro w1 hb1 hd KK hK
                          have d6 : x6 = .bool false := hd 6 (by kernel_rfl)
                          have d7 : x7 = undef := hd 7 (by kernel_rfl)
                          clear hd
                          subst d6
                          subst d7
                          simp only [Act.put, List.setIfInBounds_toArray, List.set_cons_zero, List.set_cons_succ] at hK
                          go_simp
                          first | exact hK.out _ _ (Below.refl _ _) rfl | (have hk := hK.out _ _ (Below.refl _ _) rfl; revert hk; go_simp)
                        case po16x9 =>
                          intro w1 hb1 hd KK hK
                          have d6 : x6 = .bool false := hd 6 (by kernel_rfl)
                          clear hd
                          subst d6
                          simp only [Act.put, List.setIfInBounds_toArray, List.set_cons_zero, List.set_cons_succ] at hK
                          go_simp
                          first | exact hK.out _ _ (Below.refl _ _) rfl | (have hk := hK.out _ _ (Below.refl _ _) rfl; revert hk; go_simp)
                        case po16x10 =>
                          intro w1 hb1 hd KK hK
                          have d6 : x6 = .bool false := hd 6 (by kernel_rfl)
                          have d8 : x8 = undef := hd 8 (by kernel_rfl)
                          have d9 : x9 = undef := hd 9 (by kernel_rfl)
                          clear hd
                          subst d6
                          subst d8
                          subst d9
                          simp only [Act.put, List.setIfInBounds_toArray, List.set_cons_zero, List.set_cons_succ] at hK
                          go_simp
                          first | exact hK.out _ _ (Below.refl _ _) rfl | (have hk := hK.out _ _ (Below.refl _ _) rfl; revert hk; go_simp)
                        case po16x11 =>
                          intro w1 hb1 hd KK hK
                          have d6 : x6 = .bool false := hd 6 (by kernel_rfl)
                          have d10 : x10 = undef := hd 10 (by kernel_rfl)
                          clear hd
                          subst d6
                          subst d10
                          simp only [Act.put, List.setIfInBounds_toArray, List.set_cons_zero, List.set_cons_succ] at hK
                          go_simp
                          first | exact hK.out _ _ (Below.refl _ _) rfl | (have hk := hK.out _ _ (Below.refl _ _) rfl; revert hk; go_simp)
                        case po16x12 =>
                          intro w1 hb1 hd KK hK
                          have d6 : x6 = .bool false := hd 6 (by kernel_rfl)
                          have d11 : x11 = undef := hd 11 (by kernel_rfl)
                          clear hd
                          subst d6
                          subst d11
                          simp only [Act.put, List.setIfInBounds_toArray, List.set_cons_zero, List.set_cons_succ] at hK
                          go_simp
                          first | exact hK.out _ _ (Below.refl _ _) rfl | (have hk := hK.out _ _ (Below.refl _ _) rfl; revert hk; go_simp)
                        case po16x13 =>
                          intro w1 hb1 hd KK hK
                          have d6 : x6 = .bool false := hd 6 (by kernel_rfl)
                          have d12 : x12 = undef := hd 12 (by kernel_rfl)
                          clear hd
                          subst d6
                          subst d12
                          simp only [Act.put, List.setIfInBounds_toArray, List.set_cons_zero, List.set_cons_succ] at hK
                          go_simp
                          first | exact hK.out _ _ (Below.refl _ _) rfl | (have hk := hK.out _ _ (Below.refl _ _) rfl; revert hk; go_simp)
                        case po16x14 =>
                          intro w1 hb1 hd KK hK
                          have d6 : x6 = .bool false := hd 6 (by kernel_rfl)
                          have d13 : x13 = .bool false := hd 13 (by kernel_rfl)
                          clear hd
                          subst d6
                          subst d13
                          simp only [Act.put, List.setIfInBounds_toArray, List.set_cons_zero, List.set_cons_succ] at hK
                          go_simp
                          first | exact hK.out _ _ (Below.refl _ _) rfl | (have hk := hK.out _ _ (Below.refl _ _) rfl; revert hk; go_simp)
                        case po16x15 =>
                          intro w1 hb1 hd KK hK
                          have d14 : x14 = .bool false := hd 14 (by kernel_rfl)
                          clear hd
                          subst d14
                          simp only [Act.put, List.setIfInBounds_toArray, List.set_cons_zero, List.set_cons_succ] at hK
                          go_simp
                          first | exact hK.out _ _ (Below.refl _ _) rfl | (have hk := hK.out _ _ (Below.refl _ _) rfl; revert hk; go_simp)
                        case po16x16 =>
                          intro w1 hb1 hd KK hK
                          have d14 : x14 = .bool false := hd 14 (by kernel_rfl)
                          have d15 : x15 = .pointer (some ⟨wo.heap.size, 3, none⟩) := hd 15 (by kernel_rfl)
                          clear hd
                          subst d14
                          subst d15
                          have hc := (E.next hb1).cellN 7 rfl
                          simp only [Act.put, List.setIfInBounds_toArray, List.set_cons_zero, List.set_cons_succ] at hK
                          go_simp
                          first | exact hK.out _ _ (Below.refl _ _) rfl | (have hk := hK.out _ _ (Below.refl _ _) rfl; revert hk; go_simp)
                        case po16x17 =>
                          intro w1 hb1 hd KK hK
                          have d14 : x14 = .bool false := hd 14 (by kernel_rfl)
                          clear hd
                          subst d14
                          simp only [Act.put, List.setIfInBounds_toArray, List.set_cons_zero, List.set_cons_succ] at hK
                          go_simp
                          first | exact hK.out _ _ (Below.refl _ _) rfl | (have hk := hK.out _ _ (Below.refl _ _) rfl; revert hk; go_simp)
                        case po16x18 =>
                          intro w1 hb1 hd KK hK
                          have d14 : x14 = .bool false := hd 14 (by kernel_rfl)
                          have d16 : x16 = .slice (some ⟨bM, oM, none⟩) ms.length cM := hd 16 (by kernel_rfl)
                          have d17 : x17 = .int .i64 i := hd 17 (by kernel_rfl)
                          clear hd
                          subst d14
                          subst d16
                          subst d17
                          simp only [Act.put, List.setIfInBounds_toArray, List.set_cons_zero, List.set_cons_succ] at hK
                          go_simp
                          first | exact hK.out _ _ (Below.refl _ _) rfl | (have hk := hK.out _ _ (Below.refl _ _) rfl; revert hk; go_simp)
                        case po16x19 =>
                          intro w1 hb1 hd KK hK
                          have d14 : x14 = .bool false := hd 14 (by kernel_rfl)
                          have d18 : x18 = .pointer (some ⟨bM, oM + i, none⟩) := hd 18 (by kernel_rfl)
                          clear hd
                          subst d14
                          subst d18
                          have hxM := (hb1.cell (p := ⟨bM, oM + i, none⟩) (by have h := HL2.out; first | exact h.1 | exact h.2.1 | exact h.2.2)).trans CM.out
                          simp only [Act.put, List.setIfInBounds_toArray, List.set_cons_zero, List.set_cons_succ] at hK
                          go_simp
                          first | exact hK.out _ _ (Below.refl _ _) rfl | (have hk := hK.out _ _ (Below.refl _ _) rfl; revert hk; go_simp)
                        case po16x20 =>
                          intro w1 hb1 hd KK hK
                          have d14 : x14 = .bool false := hd 14 (by kernel_rfl)
                          have d19 : x19 = .int .i64 m := hd 19 (by kernel_rfl)
                          clear hd
                          subst d14
                          subst d19
                          simp only [Act.put, List.setIfInBounds_toArray, List.set_cons_zero, List.set_cons_succ] at hK
                          go_simp
                          first | exact hK.out _ _ (Below.refl _ _) rfl | (have hk := hK.out _ _ (Below.refl _ _) rfl; revert hk; go_simp)
                        case po16x21 =>
                          intro w1 hb1 hd KK hK
                          have d14 : x14 = .bool false := hd 14 (by kernel_rfl)
                          have d20 : x20 = .bool true := hd 20 (by kernel_rfl)
                          clear hd
                          subst d14
                          subst d20
                          simp only [Act.put, List.setIfInBounds_toArray, List.set_cons_zero, List.set_cons_succ] at hK
                          go_simp
                          first | exact hK.out _ _ (Below.refl _ _) rfl | (have hk := hK.out _ _ (Below.refl _ _) rfl; revert hk; go_simp)
                        case po16x22 =>
                          intro w1 hb1 hd KK hK
                          have d21 : x21 = .bool true := hd 21 (by kernel_rfl)
                          clear hd
                          subst d21
                          simp only [Act.put, List.setIfInBounds_toArray, List.set_cons_zero, List.set_cons_succ] at hK
                          go_simp
                          first | exact hK.out _ _ (Below.refl _ _) rfl | (have hk := hK.out _ _ (Below.refl _ _) rfl; revert hk; go_simp)
                        case po16x23 =>
                          intro w1 hb1 hd KK hK
                          have d21 : x21 = .bool true := hd 21 (by kernel_rfl)
                          have d22 : x22 = .pointer (some ⟨Qa, 1, none⟩) := hd 22 (by kernel_rfl)
                          clear hd
                          subst d21
                          subst d22
                          have hc := (E.next hb1).cellN 3 rfl
                          simp only [Act.put, List.setIfInBounds_toArray, List.set_cons_zero, List.set_cons_succ] at hK
                          go_simp
                          first | exact hK.out _ _ (Below.refl _ _) rfl | (have hk := hK.out _ _ (Below.refl _ _) rfl; revert hk; go_simp)
                        case po16x24 =>
                          intro w1 hb1 hd KK hK
                          have d21 : x21 = .bool true := hd 21 (by kernel_rfl)
                          clear hd
                          subst d21
                          simp only [Act.put, List.setIfInBounds_toArray, List.set_cons_zero, List.set_cons_succ] at hK
                          go_simp
                          first | exact hK.out _ _ (Below.refl _ _) rfl | (have hk := hK.out _ _ (Below.refl _ _) rfl; revert hk; go_simp)
                        case po16x25 =>
                          intro w1 hb1 hd KK hK
                          have d21 : x21 = .bool true := hd 21 (by kernel_rfl)
                          have d23 : x23 = .slice (some ⟨bK, oK, none⟩) K.length da := hd 23 (by kernel_rfl)
                          have d24 : x24 = .int .i64 i := hd 24 (by kernel_rfl)
                          clear hd
                          subst d21
                          subst d23
                          subst d24
                          simp only [Act.put, List.setIfInBounds_toArray, List.set_cons_zero, List.set_cons_succ] at hK
                          go_simp
                          first | exact hK.out _ _ (Below.refl _ _) rfl | (have hk := hK.out _ _ (Below.refl _ _) rfl; revert hk; go_simp)
                        case po16x26 =>
                          intro w1 hb1 hd KK hK
                          have d21 : x21 = .bool true := hd 21 (by kernel_rfl)
                          have d25 : x25 = .pointer (some ⟨bK, oK + i, none⟩) := hd 25 (by kernel_rfl)
                          clear hd
                          subst d21
                          subst d25
                          have hxK := (hb1.cell (p := ⟨bK, oK + i, none⟩) (by have h := HL2.out; first | exact h.1 | exact h.2.1 | exact h.2.2)).trans CK.out
                          simp only [Act.put, List.setIfInBounds_toArray, List.set_cons_zero, List.set_cons_succ] at hK
                          go_simp
                          first | exact hK.out _ _ (Below.refl _ _) rfl | (have hk := hK.out _ _ (Below.refl _ _) rfl; revert hk; go_simp)
                        case po16x27 =>
                          intro w1 hb1 hd KK hK
                          have d21 : x21 = .bool true := hd 21 (by kernel_rfl)
                          clear hd
                          subst d21
                          simp only [Act.put, List.setIfInBounds_toArray, List.set_cons_zero, List.set_cons_succ] at hK
                          go_simp
                          first | exact hK.out _ _ (Below.refl _ _) rfl | (have hk := hK.out _ _ (Below.refl _ _) rfl; revert hk; go_simp)
                        case po16x28 =>
                          intro w1 hb1 hd KK hK
                          have d21 : x21 = .bool true := hd 21 (by kernel_rfl)
                          have d27 : x27 = .pointer (some ⟨wo.heap.size, 0, none⟩) := hd 27 (by kernel_rfl)
                          clear hd
                          subst d21
                          subst d27
                          simp only [Act.put, List.setIfInBounds_toArray, List.set_cons_zero, List.set_cons_succ] at hK
                          go_simp
                          first | exact hK.out _ _ (Below.refl _ _) rfl | (have hk := hK.out _ _ (Below.refl _ _) rfl; revert hk; go_simp)
                        case po16x29 =>
                          intro w1 hb1 hd KK hK
                          have d21 : x21 = .bool true := hd 21 (by kernel_rfl)
                          have d28 : x28 = .pointer (some ⟨wo.heap.size, 1, none⟩) := hd 28 (by kernel_rfl)
                          clear hd
                          subst d21
                          subst d28
                          have hc := (E.next hb1).cellN 5 rfl
                          simp only [Act.put, List.setIfInBounds_toArray, List.set_cons_zero, List.set_cons_succ] at hK
                          go_simp
                          first | exact hK.out _ _ (Below.refl _ _) rfl | (have hk := hK.out _ _ (Below.refl _ _) rfl; revert hk; go_simp)
                        case po16x30 =>
                          intro w1 hb1 hd KK hK
                          have d21 : x21 = .bool true := hd 21 (by kernel_rfl)
                          clear hd
                          subst d21
                          simp only [Act.put, List.setIfInBounds_toArray, List.set_cons_zero, List.set_cons_succ] at hK
                          go_simp
                          first | exact hK.out _ _ (Below.refl _ _) rfl | (have hk := hK.out _ _ (Below.refl _ _) rfl; revert hk; go_simp)
                        case po16x31 =>
                          intro w1 hb1 hd KK hK
                          have d21 : x21 = .bool true := hd 21 (by kernel_rfl)
                          have d29 : x29 = .slice (some ⟨bY, oY, none⟩) ysA.length dA := hd 29 (by kernel_rfl)
                          have d30 : x30 = .int .i64 i := hd 30 (by kernel_rfl)
                          clear hd
                          subst d21
                          subst d29
                          subst d30
                          simp only [Act.put, List.setIfInBounds_toArray, List.set_cons_zero, List.set_cons_succ] at hK
                          go_simp
                          first | exact hK.out _ _ (Below.refl _ _) rfl | (have hk := hK.out _ _ (Below.refl _ _) rfl; revert hk; go_simp)
                        case po16x32 =>
                          intro w1 hb1 hd KK hK
                          have d21 : x21 = .bool true := hd 21 (by kernel_rfl)
                          have d31 : x31 = .pointer (some ⟨bY, oY + i, none⟩) := hd 31 (by kernel_rfl)
                          clear hd
                          subst d21
                          subst d31
                          have hxY := (hb1.cell (p := ⟨bY, oY + i, none⟩) (by have h := HL2.out; first | exact h.1 | exact h.2.1 | exact h.2.2)).trans CY.out
                          simp only [Act.put, List.setIfInBounds_toArray, List.set_cons_zero, List.set_cons_succ] at hK
                          go_simp
                          first | exact hK.out _ _ (Below.refl _ _) rfl | (have hk := hK.out _ _ (Below.refl _ _) rfl; revert hk; go_simp)
                        case po16x33 =>
                          intro w1 hb1 hd KK hK
                          have d21 : x21 = .bool true := hd 21 (by kernel_rfl)
                          have d26 : x26 = .int .i64 y := hd 26 (by kernel_rfl)
                          have d32 : x32 = .int .i64 y := hd 32 (by kernel_rfl)
                          clear hd
                          subst d21
                          subst d26
                          subst d32
                          simp only [Act.put, List.setIfInBounds_toArray, List.set_cons_zero, List.set_cons_succ] at hK
                          go_simp
                          first | exact hK.out _ _ (Below.refl _ _) rfl | (have hk := hK.out _ _ (Below.refl _ _) rfl; revert hk; go_simp)
                        case po16x34 =>
                          intro w1 hb1 hd KK hK
                          have d14 : x14 = .bool false := hd 14 (by kernel_rfl)
                          have d21 : x21 = .bool true := hd 21 (by kernel_rfl)
                          have d33 : x33 = .bool false := hd 33 (by kernel_rfl)
                          clear hd
                          subst d14
                          subst d21
                          subst d33
                          simp only [Act.put, List.setIfInBounds_toArray, List.set_cons_zero, List.set_cons_succ] at hK
                          go_simp
                          first | exact hK.out _ _ (Below.refl _ _) rfl | (have hk := hK.out _ _ (Below.refl _ _) rfl; revert hk; go_simp)
                        case po16x35 =>
                          intro w1 hb1 hd KK hK
                          have d14 : x14 = .bool false := hd 14 (by kernel_rfl)
                          have d34 : x34 = .bool false := hd 34 (by kernel_rfl)
                          clear hd
                          subst d14
                          subst d34
                          simp only [Act.put, List.setIfInBounds_toArray, List.set_cons_zero, List.set_cons_succ] at hK
                          go_simp
                          first | exact hK.out _ _ (Below.refl _ _) rfl | (have hk := hK.out _ _ (Below.refl _ _) rfl; revert hk; go_simp)
                        case pfl16 => (intro f hf; cases hf)
                        case pend16 =>
                        intro w1 hb1 hR hD
                        have d0 : x0 = .pointer (some ⟨wo.heap.size, 3, none⟩) := hR 0 (by decide)
                        have d1 : x1 = .slice (some ⟨bM, oM, none⟩) ms.length cM := hR 1 (by decide)
                        have d2 : x2 = .int .i64 i := hR 2 (by decide)
                        have d3 : x3 = .pointer (some ⟨bM, oM + i, none⟩) := hR 3 (by decide)
                        have d4 : x4 = .int .i64 m := hR 4 (by decide)
                        have d5 : x5 = .bool false := hR 5 (by decide)
                        have d6 : x6 = .bool false := hR 6 (by decide)
                        have d7 : x7 = undef := hR 7 (by decide)
                        have d8 : x8 = undef := hR 8 (by decide)
                        have d9 : x9 = undef := hR 9 (by decide)
                        have d10 : x10 = undef := hR 10 (by decide)
                        have d11 : x11 = undef := hR 11 (by decide)
                        have d12 : x12 = undef := hR 12 (by decide)
                        have d13 : x13 = .bool false := hR 13 (by decide)
                        have d14 : x14 = .bool false := hR 14 (by decide)
                        have d15 : x15 = .pointer (some ⟨wo.heap.size, 3, none⟩) := hR 15 (by decide)
                        have d16 : x16 = .slice (some ⟨bM, oM, none⟩) ms.length cM := hR 16 (by decide)
                        have d17 : x17 = .int .i64 i := hR 17 (by decide)
                        have d18 : x18 = .pointer (some ⟨bM, oM + i, none⟩) := hR 18 (by decide)
                        have d19 : x19 = .int .i64 m := hR 19 (by decide)
                        have d20 : x20 = .bool true := hR 20 (by decide)
                        have d21 : x21 = .bool true := hR 21 (by decide)
                        have d22 : x22 = .pointer (some ⟨Qa, 1, none⟩) := hR 22 (by decide)
                        have d23 : x23 = .slice (some ⟨bK, oK, none⟩) K.length da := hR 23 (by decide)
                        have d24 : x24 = .int .i64 i := hR 24 (by decide)
                        have d25 : x25 = .pointer (some ⟨bK, oK + i, none⟩) := hR 25 (by decide)
                        have d26 : x26 = .int .i64 y := hR 26 (by decide)
                        have d27 : x27 = .pointer (some ⟨wo.heap.size, 0, none⟩) := hR 27 (by decide)
                        have d28 : x28 = .pointer (some ⟨wo.heap.size, 1, none⟩) := hR 28 (by decide)
                        have d29 : x29 = .slice (some ⟨bY, oY, none⟩) ysA.length dA := hR 29 (by decide)
                        have d30 : x30 = .int .i64 i := hR 30 (by decide)
                        have d31 : x31 = .pointer (some ⟨bY, oY + i, none⟩) := hR 31 (by decide)
                        have d32 : x32 = .int .i64 y := hR 32 (by decide)
                        have d33 : x33 = .bool false := hR 33 (by decide)
                        have d34 : x34 = .bool false := hR 34 (by decide)
                        have d35 : x35 = .bool false := hR 35 (by decide)
                        clear hR hD
                        subst d0
                        subst d1
                        subst d2
                        subst d3
                        subst d4
                        subst d5
                        subst d6
                        subst d7
                        subst d8
                        subst d9
                        subst d10
                        subst d11
                        subst d12
                        subst d13
                        subst d14
                        subst d15
                        subst d16
                        subst d17
                        subst d18
                        subst d19
                        subst d20
                        subst d21
                        subst d22
                        subst d23
                        subst d24
                        subst d25
                        subst d26
                        subst d27
                        subst d28
                        subst d29
                        subst d30
                        subst d31
                        subst d32
                        subst d33
                        subst d34
                        subst d35
                        refine wpAny_done (by kernel_rfl) ?_ _
                        have HBW := Lib.hid (HBI.out.trans (hb1.mono HBI.out.size))
                        clear hb1
                        go_wp2
                        go_roundw
                        case rel => exact ⟨i + 1, by omega, by go_num, HBW.out⟩
                        case measure => simp [intOf]; omega
                  · have hie : i = ms.length := by omega
                    have hp3 := E.cellN 7 rfl
                    have hie2 : ¬ (i : Int) < (ms.length : Int) := by omega
                    clear hil hi
                    go_wp2
                    go_roundw
                    case rel => exact ⟨k + 1, by omega, by go_num, HB.out.trans (E.bel.mono hsz)⟩
                    case measure => simp [intOf]; omega
          · have hlb : ((ms.length : Int) != (ysA.length : Int)) = true := by simp; omega
            as_aux_lemma =>
              have HL := Lib.hid hl
              clear hl
              have p35x := E.cellN 0 rfl
              have p36x := E.cellN 1 rfl
              have p37x := E.cellN 2 rfl
              have p38x := E.cellN 3 rfl
              have p39x := E.cellN 4 rfl
              have p40x := E.cellN 5 rfl
              go_wp2_with (go_at_call 6; refine (tenMay_any _ _ _ _ _ _ _ (E.tenN 0 rfl).sh (E.tenN 0 rfl).da).mono ?_; rintro e w2 ⟨he, hb⟩; rw [tA] at he; subst he; replace E := E.next hb; clear p35x p36x p37x p38x p39x p40x; have p41x := E.cellN 0 rfl; have p42x := E.cellN 1 rfl; have p43x := E.cellN 2 rfl; have p44x := E.cellN 3 rfl; have p45x := E.cellN 4 rfl; have p46x := E.cellN 5 rfl; clear hb)
              go_roundw
              case rel => exact ⟨k + 1, by omega, by go_num, HB.out.trans (E.bel.mono hsz)⟩
              case measure => simp [intOf]; omega
    · -- the end
      have HB := Lib.hid hbel
      have hsz := hbel.size
      have HW := Lib.hid (wakes17_any wo)
      clear hbel h
      by_cases hlt : k < n
      · have h20 : ¬ k < 10 := fun h => hend ⟨hlt, h⟩
        clear hend
        go_wp2_with (go_at_call 13; refine HW.out.mono ?_; rintro e w1 ⟨rfl, hb⟩)
        go_ret
        exact ⟨rfl, HB.out.trans (hb.mono hsz)⟩
      · clear hend
        go_wp2_with (go_at_call 13; refine HW.out.mono ?_; rintro e w1 ⟨rfl, hb⟩)
        go_ret
        exact ⟨rfl, HB.out.trans (hb.mono hsz)⟩

end Go.Proofs.Ytimjhjacinchjaa
