/- Walks: the decimals of wide numbers. -/
import Derived.Test.YtlbmpdidmckgkaaTxt2
import Derived.Test.YtlbmpdidmckgkaaDiv4
import Derived.Deep.LoopGhost
import Derived.BigQuiet
import Derived.WalkMore
import Derived.Deep.RegionHeld3
import Derived.Deep.RegionWith
import Derived.BigRegion
import Derived.Deep.Cut
import Derived.Deep.CutBlock
import Derived.Deep.CutRange
set_option linter.unusedVariables false
set_option linter.unusedSimpArgs false
namespace Go.Proofs.Ytlbmpdidmckgkaa
open Go.RowKit Go.Rt

theorem wpAny_takeD {P : Program} {md : Region.Mode} {ops : Array Oper} {Q : Exit → Act → World → Prop} {i : Nat} {oi : Oper} {dst : Option Tmp} {v : Value} {fuel : Nat} {listed : Array Bool} {a : Act} {w : World} (hi : ops[i]? = some oi) (hd : oi.dst = dst)
    (hs : Region.noSelect ops = true) (hf : Region.free md ops listed i = true) (hr : (Region.ready md ops listed).contains i = true)
    (hQ : ∀ c a w, Q (.panic c) (a.put oi.dst v) w → Q (.panic c) a w) (hw : Region.wanted oi (yielded ops a.tmps) = true) (hy : ∀ w, (execOp a.eval oi).run P w = .ok (.value v) w)
    (h : wpAny P md ops Q fuel (listed.setIfInBounds i true) (a.put dst v) w) : wpAny P md ops Q (fuel + 1) listed a w := by
  subst hd
  exact wpAny_take hi hs hf hr hQ (.inl ⟨hw, hy⟩) h
theorem own_far {w : World} {base : Nat} {e : TypeId} {size n : Nat} {v : Value} {xs : List Value} {b o : Nat} {y : Value} (h : w.ownsRow base e size v n xs) (hb : b < base) : (w.setCell ⟨b, o, none⟩ y).ownsRow base e size v n xs := by
  have hB := (Below.refl b w).setCell (p := ⟨b, o, none⟩) (Nat.le_refl _) y
  refine h.kept (row := some b) ⟨hB.os, hB.tape, hB.output, hB.size, fun k hk hne => Below.heap_setCell w ⟨b, o, none⟩ y k (fun e => hne (by rw [e]))⟩ ?_
  rcases h.2 with ⟨h1, _⟩ | ⟨g, cap, cur, h1, hg, _⟩
  · subst h1; exact .inl rfl
  · subst h1
    refine .inr (fun e => ?_)
    injection e with e
    dsimp only at e
    omega
theorem stored_u8 {w : World} {base g n cap : Nat} {L : List Int} (h : w.ownsRow base 5 1 (.slice (some ⟨g, 0, none⟩) n cap) n (L.map (Value.int .u8))) (j : Nat) (x : Int) : (w.setCell ⟨g, j, none⟩ (.int .u8 x)).ownsRow base 5 1 (.slice (some ⟨g, 0, none⟩) n cap) n ((L.set j x).map (Value.int .u8)) := by
  have := (h.stored j (.int .u8 x)).1
  rwa [map_set] at this
theorem dec_end {D : List Int} {m d : Nat} (hr : Rng 10 D) (hv : valB 10 D + 10 ^ D.length * d = m) (hd : d < 10) (h0 : D = [] ∨ d ≠ 0) : txtN m = ((D ++ [(d : Int)]).map (fun d => 48 + d)).reverse := by
  have hr2 : Rng 10 (D ++ [(d : Int)]) := hr.append (by intro x hx; simp only [List.mem_singleton] at hx; subst hx; omega)
  have hv2 : valB 10 (D ++ [(d : Int)]) = m := by rw [valB_snoc 10 D _ D.length rfl, Int.toNat_natCast]; exact hv
  by_cases hm : m = 0
  · have hd0 : d = 0 := by
      have : 0 < 10 ^ D.length := Nat.pow_pos (by decide)
      rcases Nat.eq_zero_or_pos d with h | h
      · exact h
      · have := Nat.mul_pos this h
        omega
    have hD : D = [] := h0.resolve_right (fun h => h hd0)
    subst hD hd0
    unfold txtN
    rw [if_pos hm]
    rfl
  · have ht : Top (D ++ [(d : Int)]) := by
      refine .inr ?_
      rw [List.length_append]
      simp
      rintro rfl
      rcases h0 with rfl | h
      · apply hm
        rw [← hv]
        simp [valB]
      · exact h rfl
    have hu := dig_unique (B := 10) (by decide) hr2 ht
    rw [hv2] at hu
    unfold txtN
    rw [if_neg hm, hu]
/-- A list in the midst of being turned round. -/
def turned (L : List Int) (i : Nat) (x : Nat) : Int := if x < i ∨ L.length - i ≤ x then L[L.length - 1 - x]?.getD 0 else L[x]?.getD 0
theorem list_eq_getD {A B : List Int} (hl : A.length = B.length) (h : ∀ x : Nat, x < A.length → A[x]?.getD 0 = B[x]?.getD 0) : A = B := by
  apply List.ext_getElem hl
  intro i h1 h2
  have := h i h1
  rw [List.getElem?_eq_getElem h1, List.getElem?_eq_getElem h2] at this
  exact this
theorem turned_step {L M : List Int} {i k : Nat} (hl : M.length = L.length) (hk : i + k + 1 = L.length) (hik : i < k) (hM : ∀ x : Nat, x < L.length → M[x]?.getD 0 = turned L i x) :
    ((M.set i (M[k]?.getD 0)).set k (M[i]?.getD 0)).length = L.length ∧ ∀ x : Nat, x < L.length → ((M.set i (M[k]?.getD 0)).set k (M[i]?.getD 0))[x]?.getD 0 = turned L (i + 1) x := by
  refine ⟨by simp [hl], fun x hx => ?_⟩
  have hMi := hM i (by omega)
  have hMk := hM k (by omega)
  rw [set_getD, set_getD, List.length_set, hl, hMi, hMk, hM x hx]
  unfold turned
  have e1 : L.length - 1 - k = i := by omega
  have e2 : L.length - 1 - i = k := by omega
  by_cases hxk : x = k
  · subst hxk
    rw [if_pos (by omega), if_neg (by omega), if_pos (by omega), e1]
  · rw [if_neg (by omega)]
    by_cases hxi : x = i
    · subst hxi
      rw [if_pos (by omega), if_neg (by omega), if_pos (by omega), e2]
    · rw [if_neg (by omega)]
      by_cases hc : x < i ∨ L.length - i ≤ x
      · rw [if_pos hc, if_pos (by omega)]
      · rw [if_neg hc, if_neg (by omega)]
theorem turned_end {L M : List Int} {i : Nat} {k : Int} (hl : M.length = L.length) (hk : (i : Int) + k + 1 = L.length) (hik : ¬ (i : Int) < k) (hM : ∀ x : Nat, x < L.length → M[x]?.getD 0 = turned L i x) : M = L.reverse := by
  refine list_eq_getD (by simp [hl]) (fun x hx => ?_)
  rw [hM x (by omega)]
  have hrev : (L.reverse)[x]?.getD 0 = L[L.length - 1 - x]?.getD 0 := by rw [List.getElem?_reverse (by omega)]
  rw [hrev]
  unfold turned
  by_cases hc : x < i ∨ L.length - i ≤ x
  · rw [if_pos hc]
  · rw [if_neg hc]
    have : L.length - 1 - x = x := by omega
    rw [this]

theorem own_set {w : World} {base : Nat} {e : TypeId} {size n : Nat} {v : Value} {xs : List Value} {b o : Nat} {y : Value} (h : w.ownsRow base e size v n xs) (hne : v.ownBlock ≠ some b) : (w.setCell ⟨b, o, none⟩ y).ownsRow base e size v n xs := by
  have hB := (Below.refl b w).setCell (p := ⟨b, o, none⟩) (Nat.le_refl _) y
  exact h.kept (row := some b) ⟨hB.os, hB.tape, hB.output, hB.size, fun k hk hne => Below.heap_setCell w ⟨b, o, none⟩ y k (fun e => hne (by rw [e]))⟩ (.inr hne)
theorem own_ne {w : World} {base : Nat} {e : TypeId} {size n : Nat} {v : Value} {xs : List Value} {b : Nat} (h : w.ownsRow base e size v n xs) (hb : b < base) : v.ownBlock ≠ some b := by
  rcases h.2 with ⟨h1, _⟩ | ⟨g, cap, cur, h1, hg, _⟩
  · subst h1; intro e; cases e
  · subst h1
    intro e
    injection e with e
    dsimp only at e
    omega
set_option maxHeartbeats 8000000 in
set_option maxRecDepth 100000 in
theorem wtext_a (h l : Int) (w : World) (ha : WR h l) (hs : decide (h < 0) = false) :
    Calls Try.prog 39 #[.agg #[.int .i64 h, .int .u64 l]] w fun e w' => e = .returned (txt (txtZ (V h l))) ∧ Below w.heap.size w w' := by
  have hab := A_bounds h l ha
  have hof := fun w => Lib.hid (of_any h l w ha)
  obtain ⟨m, hm⟩ : ∃ m : Nat, A h l = (m : Int) := ⟨(A h l).toNat, by omega⟩
  have hmb : m ≤ 170141183460469231731687303715884105728 := by omega
  have hng : decide (V h l < 0) = decide (h < 0) := by obtain ⟨_, _, _, _⟩ := ha; apply decide_eq_decide.2; unfold V; omega
  have hab2 : (V h l).natAbs = m := by unfold A at hm; split at hm <;> omega
  have hTZ : txtZ (V h l) = if decide (h < 0) = true then 45 :: txtN m else txtN m := by unfold txtZ; rw [hab2, ← hng]; simp
  have HTZ := Lib.hid hTZ
  rw [hm] at hof
  clear hab hm hng hab2 hTZ ha
  generalize decide (h < 0) = sg at *
  have HSG := Lib.hid hs
  clear hs
  have HDV := fun (S : Nat) w (hS : S ≤ 170141183460469231731687303715884105728) => Lib.hid (divide_lo (S : Int) 10 w (by omega) (by omega) (by decide) (by decide))
  unfold Div at HDV
  go_enter Try.func39, Try.ntmps39
  go_upto_region 2 with (go_at_call 58; refine (hof _).out.mono ?_; rintro e w3 ⟨rfl, hb3⟩; have HB3 : Hid (Below w.heap.size w w3) := Lib.hid (Below.trans (by (repeat' (first | exact Below.refl _ _ | refine Below.drew ?_ | refine Below.setCell ?_ (by first | omega | (simp <;> omega)) _ | refine Below.alloc ?_ (by first | omega | (simp <;> omega)) _))) (hb3.mono (by first | omega | (simp <;> omega)))); clear hb3)
  have hX : Box2 (w3.alloc (.cells #[.int .u64 ((m : Int) / 18446744073709551616), .int .u64 ((m : Int) % 18446744073709551616)] 71)) w3.heap.size (.int .u64 ((m : Int) / 18446744073709551616)) (.int .u64 ((m : Int) % 18446744073709551616)) := by constructor <;> go_simp
  have HB4 : Hid (Below w.heap.size w (w3.alloc (.cells #[.int .u64 ((m : Int) / 18446744073709551616), .int .u64 ((m : Int) % 18446744073709551616)] 71))) := Lib.hid (HB3.out.alloc HB3.out.size _)
  have hlt4 : w3.heap.size < (w3.alloc (.cells #[.int .u64 ((m : Int) / 18446744073709551616), .int .u64 ((m : Int) % 18446744073709551616)] 71)).heap.size := by simp
  have HW4 := HB3.out.size
  generalize w3.alloc (.cells #[.int .u64 ((m : Int) / 18446744073709551616), .int .u64 ((m : Int) % 18446744073709551616)] 71) = W4 at hX HB4 hlt4 ⊢
  generalize w3.heap.size = b4 at *
  obtain ⟨B0, hB0⟩ : ∃ B, W4.heap.size = B := ⟨_, rfl⟩
  rw [hB0] at hlt4
  have HX := Lib.hid hX
  clear hX HB3
  have HB0 := Lib.hid hB0
  clear hB0 hof
  go_wp2
  go_loopg [5, 6] m (fun gk bv rv wr => ∃ (D : List Int), Hid (gk ≤ 170141183460469231731687303715884105728) ∧ Hid (Box2 wr b4 (.int .u64 ((gk : Int) / 18446744073709551616)) (.int .u64 ((gk : Int) % 18446744073709551616))) ∧ Hid (Rng 10 D) ∧ Hid (valB 10 D + 10 ^ D.length * gk = m) ∧ Hid (D = [] ∨ gk ≠ 0) ∧ Hid (wr.ownsRow B0 5 1 bv (D).length (((D).map (fun d => 48 + d)).map (Value.int .u8))) ∧ Hid (Below w.heap.size w wr ∧ B0 ≤ wr.heap.size ∧ w.heap.size ≤ b4))
  case atStart => exact ⟨[], Lib.hid hmb, HX, Lib.hid (fun x hx => by cases hx), Lib.hid (by simp [valB]), Lib.hid (.inl rfl), Lib.hid (World.ownsRow_nil _ _ _ _), Lib.hid ⟨HB4.out, by rw [HB0.out]; exact Nat.le_refl _, HW4⟩⟩
  case round =>
    obtain ⟨D, HGB, HBX, HR, HV, HE, HO, HW⟩ := hrel
    obtain ⟨wi, rfl⟩ : ∃ wi : World, wi = wr := ⟨_, rfl⟩
    obtain ⟨c0, c1, f0, f1⟩ := HBX.out
    have hDL : D.length < 200 := by
      by_cases hD : D = []
      · subst hD; decide
      · exact dec_len HV.out (Nat.pos_of_ne_zero (HE.out.resolve_left hD)) (Nat.lt_of_le_of_lt hmb (by decide))
    have hdv := fun w => HDV gk w HGB.out
    have z1 : (gk : Int) / 10 = ((gk / 10 : Nat) : Int) := rfl
    have z2 : (gk : Int) % 10 = ((gk % 10 : Nat) : Int) := rfl
    rw [z1, z2] at hdv
    obtain ⟨q, hq⟩ : ∃ q, gk / 10 = q := ⟨_, rfl⟩
    obtain ⟨d, hd⟩ : ∃ d, gk % 10 = d := ⟨_, rfl⟩
    rw [hq, hd] at hdv
    have hdb : d < 10 := by omega
    have z3 : (d : Int) / 18446744073709551616 = 0 := by omega
    have z4 : (d : Int) % 18446744073709551616 = (d : Int) := by omega
    rw [z3, z4] at hdv
    have hst := dec_step HV.out hd.symm
    rw [hq] at hst
    have hqg : gk ≠ 0 → q < gk := by omega
    have hgk00 : gk = 0 → q ≠ 0 → False := by omega
    have HGK0 := Lib.hid hgk00
    clear hgk00
    have hgq : q = 0 → gk = d := by omega
    have hqb : q ≤ 170141183460469231731687303715884105728 := by have := HGB.out; omega
    obtain ⟨q1, hq1⟩ : ∃ x, (q : Int) / 18446744073709551616 = x := ⟨_, rfl⟩
    obtain ⟨q2, hq2⟩ : ∃ x, (q : Int) % 18446744073709551616 = x := ⟨_, rfl⟩
    have hq0 : q = 0 ↔ (q1 = 0 ∧ q2 = 0) := by omega
    obtain ⟨g1, hg1⟩ : ∃ x, (gk : Int) / 18446744073709551616 = x := ⟨_, rfl⟩
    obtain ⟨g2, hg2⟩ : ∃ x, (gk : Int) % 18446744073709551616 = x := ⟨_, rfl⟩
    rw [hg1] at c0 hdv
    rw [hg2] at c1 hdv
    rw [hq1, hq2] at hdv
    have HDD : ∀ w, Hid (Calls Try.prog 67 #[.agg #[.int .u64 g1, .int .u64 g2], .agg #[.int .u64 0, .int .u64 10]] w fun e w' => e = .returned (.tuple #[.agg #[.int .u64 q1, .int .u64 q2], .agg #[.int .u64 0, .int .u64 (d : Int)]]) ∧ Below w.heap.size w w') := hdv
    obtain ⟨y, hy⟩ : ∃ y : Int, 48 + (d : Int) = y := ⟨_, rfl⟩
    have d7 : ∀ [Inhabited Unit], 48 + (d : Int) = y := by intro _; exact hy
    have d8 : ∀ [Inhabited Unit], IntKind.u64.wrap y = y := by intro _; rw [wrapU]; omega
    have d9 : ∀ [Inhabited Unit], IntKind.u8.wrap y = y := by intro _; simp only [IntKind.wrap, IntKind.bits, IntKind.signed]; simp; omega
    have HST := Lib.hid hst
    have HQ1 := Lib.hid (And.intro hq1 hq2)
    have HQ0 := Lib.hid hq0
    have HQG := Lib.hid hqg
    have HGQ := Lib.hid hgq
    have HQB := Lib.hid hqb
    have HDB := Lib.hid hdb
    have HYE := Lib.hid hy
    have hlt5 : b4 < B0 := hlt4
    have hB5 := HW.out.2.1
    have hW5 := HW.out.2.2
    have hb4i : b4 < wi.heap.size := by omega
    have hb4n : ¬ b4 = wi.heap.size := by omega
    have HYM : Hid ((D ++ [(d : Int)]).map (fun d => 48 + d) = D.map (fun d => 48 + d) ++ [y]) := Lib.hid (by rw [List.map_append]; simp [hy])
    clear hdv hst hq hd hdb z1 z2 z3 z4 hq1 hq2 hq0 hg1 hg2 hqg hgq hqb hy
    go_upto_region 5 with (go_at_call 67; refine (HDD _).out.mono ?_; rintro e w5 ⟨rfl, hb5⟩; have Y4 := Box2.below (b := b4) (v0 := .int .u64 g1) (v1 := .int .u64 g2) (by constructor <;> go_simp) hb5 (by first | omega | (simp <;> omega)); have Y6 := Box2.below (b := wi.heap.size) (v0 := .int .u64 0) (v1 := .int .u64 0) (by constructor <;> go_simp) hb5 (by simp); have hs5 := hb5.size; (try simp at hs5); have hb6 : Below wi.heap.size wi w5 := Below.trans ((Below.refl _ _).alloc (Nat.le_refl _) _) (hb5.mono (by simp)); have HO5 := Lib.hid (own_below HO.out hb6 (Nat.le_refl _)); have HW5 := Lib.hid (HW.out.1.trans (hb6.mono HW.out.1.size)); clear c0 c1 f0 f1 hb5 hb6; obtain ⟨c0, c1, f0, f1⟩ := Y4; obtain ⟨e0, e1, ef0, ef1⟩ := Y6)
    have Z4 : Box2 (((((w5).setCell ⟨b4, 0, none⟩ (.int .u64 q1)).setCell ⟨b4, 1, none⟩ (.int .u64 q2)).setCell ⟨wi.heap.size, 0, none⟩ (.int .u64 0)).setCell ⟨wi.heap.size, 1, none⟩ (.int .u64 (d : Int))) b4 (.int .u64 q1) (.int .u64 q2) := by constructor <;> go_simp
    have Z6 : Box2 (((((w5).setCell ⟨b4, 0, none⟩ (.int .u64 q1)).setCell ⟨b4, 1, none⟩ (.int .u64 q2)).setCell ⟨wi.heap.size, 0, none⟩ (.int .u64 0)).setCell ⟨wi.heap.size, 1, none⟩ (.int .u64 (d : Int))) wi.heap.size (.int .u64 0) (.int .u64 (d : Int)) := by constructor <;> go_simp
    skip
    have hn4 := own_ne HO.out hlt5
    have hn6 := fun e => Nat.lt_irrefl _ (HO.out.lt wi.heap.size e).2
    have hO6 := own_set (o := 1) (y := .int .u64 (d : Int)) (own_set (o := 0) (y := .int .u64 0) (own_set (o := 1) (y := .int .u64 q2) (own_set (o := 0) (y := .int .u64 q1) HO5.out hn4) hn4) hn6) hn6
    have hS6 : (((((w5).setCell ⟨b4, 0, none⟩ (.int .u64 q1)).setCell ⟨b4, 1, none⟩ (.int .u64 q2)).setCell ⟨wi.heap.size, 0, none⟩ (.int .u64 0)).setCell ⟨wi.heap.size, 1, none⟩ (.int .u64 (d : Int))).heap.size = w5.heap.size := by simp
    have hW6 : Below w.heap.size w (((((w5).setCell ⟨b4, 0, none⟩ (.int .u64 q1)).setCell ⟨b4, 1, none⟩ (.int .u64 q2)).setCell ⟨wi.heap.size, 0, none⟩ (.int .u64 0)).setCell ⟨wi.heap.size, 1, none⟩ (.int .u64 (d : Int))) := (((HW5.out.setCell (p := ⟨b4, 0, none⟩) hW5 _).setCell (p := ⟨b4, 1, none⟩) hW5 _).setCell (p := ⟨wi.heap.size, 0, none⟩) HW.out.1.size _).setCell (p := ⟨wi.heap.size, 1, none⟩) HW.out.1.size _
    generalize ((((w5).setCell ⟨b4, 0, none⟩ (.int .u64 q1)).setCell ⟨b4, 1, none⟩ (.int .u64 q2)).setCell ⟨wi.heap.size, 0, none⟩ (.int .u64 0)).setCell ⟨wi.heap.size, 1, none⟩ (.int .u64 (d : Int)) = W6 at Z4 Z6 hO6 hS6 hW6 ⊢
    have HO6 := Lib.hid hO6
    have HW6 := Lib.hid hW6
    clear c0 c1 f0 f1 e0 e1 ef0 ef1 hO6 hW6
    obtain ⟨c0, c1, f0, f1⟩ := id Z4
    obtain ⟨e0, e1, ef0, ef1⟩ := id Z6
    have HZ4 := Lib.hid Z4
    have hsz : B0 ≤ W6.heap.size := by omega
    clear Z4 Z6 hS6
    go_upto_region 6 with (at_builtin; go_loud ((refine append8 B0 _ D.length (D.map (fun d => 48 + d)) y _ _ _ rfl rfl rfl HO6.out rfl (by omega) hsz ?_); intro v' w7 hown1 hbel1 hz1 hz2; clear hz1 hz2; have HO7 := Lib.hid hown1; have hb7 := hbel1 B0 W6 (Nat.le_refl _) (Below.refl _ _); have HW7 := Lib.hid (HW6.out.trans (hb7.mono (by omega))); have HZ7 := Lib.hid (HZ4.out.below hb7 hlt5); have hs7 := hb7.size; clear hown1 hbel1 hb7 c0 c1 f0 f1; obtain ⟨c0, c1, f0, f1⟩ := id HZ7.out))
    by_cases hq9 : q1 = 0 ∧ q2 = 0
    · obtain ⟨h1, h2⟩ := hq9
      have hfin := dec_end HR.out (d := d) (m := m) (by have := HV.out; rw [HGQ.out (HQ0.out.2 ⟨h1, h2⟩)] at this; exact this) HDB.out (by rcases HE.out with h | h; exact .inl h; right; rw [← HGQ.out (HQ0.out.2 ⟨h1, h2⟩)]; exact h)
      rw [HYM.out] at hfin
      have HFIN := Lib.hid hfin
      obtain ⟨L, hL⟩ : ∃ L, D.map (fun d => 48 + d) ++ [y] = L := ⟨_, rfl⟩
      have hLl : D.length + 1 = L.length := by rw [← hL]; simp
      have hLr : ∀ x ∈ L, 0 ≤ x ∧ x ≤ 255 := by
        intro x hx
        rw [← hL] at hx
        rcases List.mem_append.1 hx with hx | hx
        · obtain ⟨z, hz, rfl⟩ := List.mem_map.1 hx
          have := HR.out z hz
          omega
        · simp only [List.mem_singleton] at hx
          subst hx
          have := HYE.out; have := HDB.out; omega
      rw [hL] at HO7 HFIN
      rw [hLl] at HO7
      have HLR := Lib.hid hLr
      have hLb : L.length < 201 := by omega
      have hL1 : 1 ≤ L.length := by omega
      subst h1 h2
      clear hfin hL hLl hLr HST HYM HV HE HO HR HQ1 HQ0 HQG HGQ HQB HDB HGB HBX HO5 HO6 HZ4 HZ7 HW HDD
      obtain ⟨N1, hN1⟩ : ∃ N, L.length = N := ⟨_, rfl⟩
      have hwg0 := hW5
      cases sg with
      | false =>
        as_aux_lemma =>
          have HTX : Hid (txtZ (V h l) = L.reverse) := Lib.hid (by rw [HTZ.out, HFIN.out]; simp)
          clear HFIN HTZ
          go_upto_region 9 with fail
          obtain ⟨L2, rfl⟩ : ∃ L2, L2 = L := ⟨_, rfl⟩
          obtain ⟨N, rfl⟩ : ∃ N, N = N1 := ⟨_, rfl⟩
          have HOL := HO7
          rw [hN1] at HOL
          have HWL := HW7
          have HNL := Lib.hid hN1
          have HWG : Hid (∀ g, B0 ≤ g → w.heap.size ≤ g) := Lib.hid (fun g hg => by omega)
          have hNb : N < 202 := by omega
          have hN1b : 1 ≤ N := by omega
          clear HO7 HW7 hN1 hLb hL1
          obtain ⟨ad, cd, hdv, hsh⟩ := own_shape HOL.out
          obtain ⟨g, rfl, hg1, hg2⟩ := hsh.resolve_left (by omega)
          subst hdv
          have hwg := HWG.out g hg1
          have HCAP := Lib.hid (own_cap1 HOL.out)
          have eN : ∀ [Inhabited Unit], RowKit.wrap64 ((N : Int) - 1) = (N : Int) - 1 := by intro _; exact IntWalk.wrap64_in _ ⟨by omega, by omega⟩
          go_wp2
          go_loopw [7, 8] (fun iv kv wr => ∃ (i : Nat) (I : Int) (M : List Int), iv = .int .i64 i ∧ kv = .int .i64 I ∧ (i : Int) + I + 1 = N ∧ i ≤ N ∧ -1 ≤ I ∧ Hid (M.length = L2.length) ∧ Hid (∀ x : Nat, x < L2.length → M[x]?.getD 0 = turned L2 i x) ∧ Hid (wr.ownsRow B0 5 1 (.slice (some ⟨g, 0, none⟩) N cd) N ((M).map (Value.int .u8))) ∧ Hid (Below w.heap.size w wr)) (fun iv _ _ => N - (intOf iv).toNat)
          case atStart => exact ⟨0, (N : Int) - 1, L2, rfl, rfl, by omega, Nat.zero_le _, by omega, Lib.hid rfl, Lib.hid (fun x hx => by unfold turned; rw [if_neg (by omega)]), HOL, HWL⟩
          case round =>
            clear HOL HWL eN
            obtain ⟨i, I, M, rfl, rfl, hsum, hiN, hI1, HML, HMT, HOM, HWM⟩ := hrel
            obtain ⟨wj, rfl⟩ : ∃ wj : World, wj = wr := ⟨_, rfl⟩
            by_cases hik : (i : Int) < I
            · obtain ⟨k, rfl⟩ : ∃ k : Nat, I = (k : Int) := ⟨I.toNat, by omega⟩
              have hkL : i + k + 1 = L2.length := by have := HNL.out; omega
              have hts := turned_step HML.out hkL (by omega) HMT.out
              clear hkL
              have ci := own_cell HOM.out (j := i) (by omega)
              have ck := own_cell HOM.out (j := k) (by omega)
              have fi := HOM.out.frozenAt i
              have fk := HOM.out.frozenAt k
              obtain ⟨vi, hvi⟩ : ∃ v, M[i]?.getD 0 = v := ⟨_, rfl⟩
              obtain ⟨vk, hvk⟩ : ∃ v, M[k]?.getD 0 = v := ⟨_, rfl⟩
              rw [hvi, hvk] at hts
              rw [hvi] at ci
              rw [hvk] at ck
              have iN : (i : Int) < (N : Int) := by omega
              have i0 : (0 : Int) ≤ (i : Int) := by omega
              have kN : (k : Int) < (N : Int) := by omega
              have k0 : (0 : Int) ≤ (k : Int) := by omega
              have hnik : ¬ i = k := by omega
              have hnki : ¬ k = i := by omega
              have ei : ∀ [Inhabited Unit], RowKit.wrap64 ((i : Int) + 1) = (i : Int) + 1 := by intro _; exact IntWalk.wrap64_in _ ⟨by omega, by omega⟩
              have ek : ∀ [Inhabited Unit], RowKit.wrap64 ((k : Int) - 1) = (k : Int) - 1 := by intro _; exact IntWalk.wrap64_in _ ⟨by omega, by omega⟩
              have HT1 := Lib.hid hts.1
              have HT2 := Lib.hid hts.2
              have HS := Lib.hid hsum
              have HIN := Lib.hid hiN
              have HIK := Lib.hid hik
              have HO2 : ∀ d, Hid (((wj.drewN d).setCell ⟨g, i, none⟩ (.int .u8 vk)).setCell ⟨g, k, none⟩ (.int .u8 vi) |>.ownsRow B0 5 1 (.slice (some ⟨g, 0, none⟩) N cd) N ((((M.set i vk).set k vi)).map (Value.int .u8))) := fun d => Lib.hid (stored_u8 (stored_u8 (w := wj.drewN d) HOM.out i vk) k vi)
              have HO3 : Hid (((wj.drew).setCell ⟨g, i, none⟩ (.int .u8 vk)).setCell ⟨g, k, none⟩ (.int .u8 vi) |>.ownsRow B0 5 1 (.slice (some ⟨g, 0, none⟩) N cd) N ((((M.set i vk).set k vi)).map (Value.int .u8))) := Lib.hid (stored_u8 (stored_u8 (w := wj.drew) HOM.out i vk) k vi)
              have HW3 : Hid (Below w.heap.size w (((wj.drew).setCell ⟨g, i, none⟩ (.int .u8 vk)).setCell ⟨g, k, none⟩ (.int .u8 vi))) := Lib.hid (((Below.drew HWM.out).setCell (p := ⟨g, i, none⟩) hwg _).setCell (p := ⟨g, k, none⟩) hwg _)
              have hikn : i < k := by omega
              clear hts hvi hvk hsum hiN hI1 hik HMT HO2
              go_upto_region 12 with fail
              refine wp_region_any (by kernel_rfl) ?_
              try (change wpAny _ _ _ _ _ _ _ (World.drew _))
              refine wpAny_takeD (i := 0) (dst := some 44) (v := (.slice (some ⟨g, 0, none⟩) N cd)) rfl rfl (by kernel_rfl) (by kernel_rfl) (by kernel_rfl) (fun _ _ _ h => h) (by rfl) (fun w => by go_simp) ?_
              try simp only [Act.put, List.setIfInBounds_toArray, List.set_cons_zero, List.set_cons_succ]
              refine wpAny_takeD (i := 1) (dst := some 45) (v := (.int .i64 (i : Int))) rfl rfl (by kernel_rfl) (by kernel_rfl) (by kernel_rfl) (fun _ _ _ h => h) (by rfl) (fun w => by go_simp) ?_
              try simp only [Act.put, List.setIfInBounds_toArray, List.set_cons_zero, List.set_cons_succ]
              refine wpAny_takeD (i := 2) (dst := some 46) (v := (.slice (some ⟨g, 0, none⟩) N cd)) rfl rfl (by kernel_rfl) (by kernel_rfl) (by kernel_rfl) (fun _ _ _ h => h) (by rfl) (fun w => by go_simp) ?_
              try simp only [Act.put, List.setIfInBounds_toArray, List.set_cons_zero, List.set_cons_succ]
              refine wpAny_takeD (i := 3) (dst := some 47) (v := (.int .i64 (k : Int))) rfl rfl (by kernel_rfl) (by kernel_rfl) (by kernel_rfl) (fun _ _ _ h => h) (by rfl) (fun w => by go_simp) ?_
              try simp only [Act.put, List.setIfInBounds_toArray, List.set_cons_zero, List.set_cons_succ]
              refine wpAny_takeD (i := 4) (dst := some 48) (v := (.slice (some ⟨g, 0, none⟩) N cd)) rfl rfl (by kernel_rfl) (by kernel_rfl) (by kernel_rfl) (fun _ _ _ h => h) (by rfl) (fun w => by go_simp) ?_
              try simp only [Act.put, List.setIfInBounds_toArray, List.set_cons_zero, List.set_cons_succ]
              refine wpAny_takeD (i := 5) (dst := some 49) (v := (.int .i64 (k : Int))) rfl rfl (by kernel_rfl) (by kernel_rfl) (by kernel_rfl) (fun _ _ _ h => h) (by rfl) (fun w => by go_simp) ?_
              try simp only [Act.put, List.setIfInBounds_toArray, List.set_cons_zero, List.set_cons_succ]
              refine wpAny_takeD (i := 8) (dst := some 52) (v := (.slice (some ⟨g, 0, none⟩) N cd)) rfl rfl (by kernel_rfl) (by kernel_rfl) (by kernel_rfl) (fun _ _ _ h => h) (by rfl) (fun w => by go_simp) ?_
              try simp only [Act.put, List.setIfInBounds_toArray, List.set_cons_zero, List.set_cons_succ]
              refine wpAny_takeD (i := 9) (dst := some 53) (v := (.int .i64 (i : Int))) rfl rfl (by kernel_rfl) (by kernel_rfl) (by kernel_rfl) (fun _ _ _ h => h) (by rfl) (fun w => by go_simp) ?_
              try simp only [Act.put, List.setIfInBounds_toArray, List.set_cons_zero, List.set_cons_succ]
              refine wpAny_takeD (i := 6) (dst := some 50) (v := (.pointer (some ⟨g, k, none⟩))) rfl rfl (by kernel_rfl) (by kernel_rfl) (by kernel_rfl) (fun _ _ _ h => h) (by rfl) (fun w => by go_simp) ?_
              try simp only [Act.put, List.setIfInBounds_toArray, List.set_cons_zero, List.set_cons_succ]
              refine wpAny_takeD (i := 10) (dst := some 54) (v := (.pointer (some ⟨g, i, none⟩))) rfl rfl (by kernel_rfl) (by kernel_rfl) (by kernel_rfl) (fun _ _ _ h => h) (by rfl) (fun w => by go_simp) ?_
              try simp only [Act.put, List.setIfInBounds_toArray, List.set_cons_zero, List.set_cons_succ]
              refine wpAny_ready (rs := [7, 11]) (by kernel_rfl) (by simp) (AllReady.cons rfl (fun KK hK => ?_) (AllReady.cons rfl (fun KK hK => ?_) AllReady.nil))
              · as_aux_lemma =>
                  replace hK := Lib.hid hK
                  first | go_big_op | go_simp
                  refine hK.out _ _ ?_
                  clear hK KK
                  try simp only [Act.put, List.setIfInBounds_toArray, List.set_cons_zero, List.set_cons_succ]
                  refine wpAny_ready (rs := [11]) (by kernel_rfl) (by simp) (AllReady.cons rfl (fun KK hK => ?_) AllReady.nil)
                  replace hK := Lib.hid hK
                  first | go_big_op | go_simp
                  refine hK.out _ _ ?_
                  clear hK KK
                  try simp only [Act.put, List.setIfInBounds_toArray, List.set_cons_zero, List.set_cons_succ]
                  refine wpAny_takeD (i := 12) (dst := some 56) (v := (.pointer (some ⟨g, i, none⟩))) rfl rfl (by kernel_rfl) (by kernel_rfl) (by kernel_rfl) (fun _ _ _ h => h) (by rfl) (fun w => by go_simp) ?_
                  try simp only [Act.put, List.setIfInBounds_toArray, List.set_cons_zero, List.set_cons_succ]
                  refine wpAny_ready (rs := [13]) (by kernel_rfl) (by simp) (AllReady.cons rfl (fun KK hK => ?_) AllReady.nil)
                  replace hK := Lib.hid hK
                  first | go_big_op | go_simp
                  refine hK.out _ _ ?_
                  clear hK KK
                  try simp only [Act.put, List.setIfInBounds_toArray, List.set_cons_zero, List.set_cons_succ]
                  refine wpAny_takeD (i := 14) (dst := some 57) (v := (.pointer (some ⟨g, k, none⟩))) rfl rfl (by kernel_rfl) (by kernel_rfl) (by kernel_rfl) (fun _ _ _ h => h) (by rfl) (fun w => by go_simp) ?_
                  try simp only [Act.put, List.setIfInBounds_toArray, List.set_cons_zero, List.set_cons_succ]
                  refine wpAny_ready (rs := [15]) (by kernel_rfl) (by simp) (AllReady.cons rfl (fun KK hK => ?_) AllReady.nil)
                  replace hK := Lib.hid hK
                  first | go_big_op | go_simp
                  refine hK.out _ _ ?_
                  clear hK KK
                  try simp only [Act.put, List.setIfInBounds_toArray, List.set_cons_zero, List.set_cons_succ]
                  refine wpAny_done (by kernel_rfl) ?_ _
                  go_wp2
                  go_roundw
                  case rel => exact ⟨i + 1, (k : Int) - 1, (M.set i vk).set k vi, rfl, rfl, by (have := HS.out; omega), by (have := HS.out; have := HIK.out; omega), by omega, HT1, HT2, HO3, HW3⟩
                  case measure => (have := HIK.out; have := HS.out; simp [intOf]; omega)
              · as_aux_lemma =>
                  replace hK := Lib.hid hK
                  first | go_big_op | go_simp
                  refine hK.out _ _ ?_
                  clear hK KK
                  try simp only [Act.put, List.setIfInBounds_toArray, List.set_cons_zero, List.set_cons_succ]
                  refine wpAny_ready (rs := [7]) (by kernel_rfl) (by simp) (AllReady.cons rfl (fun KK hK => ?_) AllReady.nil)
                  replace hK := Lib.hid hK
                  first | go_big_op | go_simp
                  refine hK.out _ _ ?_
                  clear hK KK
                  try simp only [Act.put, List.setIfInBounds_toArray, List.set_cons_zero, List.set_cons_succ]
                  refine wpAny_takeD (i := 12) (dst := some 56) (v := (.pointer (some ⟨g, i, none⟩))) rfl rfl (by kernel_rfl) (by kernel_rfl) (by kernel_rfl) (fun _ _ _ h => h) (by rfl) (fun w => by go_simp) ?_
                  try simp only [Act.put, List.setIfInBounds_toArray, List.set_cons_zero, List.set_cons_succ]
                  refine wpAny_ready (rs := [13]) (by kernel_rfl) (by simp) (AllReady.cons rfl (fun KK hK => ?_) AllReady.nil)
                  replace hK := Lib.hid hK
                  first | go_big_op | go_simp
                  refine hK.out _ _ ?_
                  clear hK KK
                  try simp only [Act.put, List.setIfInBounds_toArray, List.set_cons_zero, List.set_cons_succ]
                  refine wpAny_takeD (i := 14) (dst := some 57) (v := (.pointer (some ⟨g, k, none⟩))) rfl rfl (by kernel_rfl) (by kernel_rfl) (by kernel_rfl) (fun _ _ _ h => h) (by rfl) (fun w => by go_simp) ?_
                  try simp only [Act.put, List.setIfInBounds_toArray, List.set_cons_zero, List.set_cons_succ]
                  refine wpAny_ready (rs := [15]) (by kernel_rfl) (by simp) (AllReady.cons rfl (fun KK hK => ?_) AllReady.nil)
                  replace hK := Lib.hid hK
                  first | go_big_op | go_simp
                  refine hK.out _ _ ?_
                  clear hK KK
                  try simp only [Act.put, List.setIfInBounds_toArray, List.set_cons_zero, List.set_cons_succ]
                  refine wpAny_done (by kernel_rfl) ?_ _
                  go_wp2
                  go_roundw
                  case rel => exact ⟨i + 1, (k : Int) - 1, (M.set i vk).set k vi, rfl, rfl, by (have := HS.out; omega), by (have := HS.out; have := HIK.out; omega), by omega, HT1, HT2, HO3, HW3⟩
                  case measure => (have := HIK.out; have := HS.out; simp [intOf]; omega)
            · have hend := turned_end HML.out (by rw [HNL.out]; exact hsum) hik HMT.out
              rw [← HTX.out] at hend
              have HEN := Lib.hid hend
              have hownM := HOM.out
              rw [HEN.out] at hownM
              obtain ⟨a4, c4, he, hI2⟩ := own_ints hownM (fun x hx => by rw [HTX.out] at hx; exact wf_u8_iff.2 (HLR.out x (List.mem_reverse.1 hx)))
              have hlt := own_len hownM
              injection he with e1 e2 e3
              clear hlt
              subst e1 e3
              have hne : txtZ (V h l) ≠ [] := by intro e; rw [e] at e2; simp at e2; omega
              have hcv := run_txt (c := cd) hI2 hne
              rw [← e2] at hcv
              clear hend hownM hI2 hne e2 HEN hsum hiN hI1
              go_wp2
              go_ret
              exact ⟨rfl, HWM.out⟩
      | true =>
        exact absurd HSG.out (by decide)
    · as_aux_lemma =>
        have hqq : q ≠ 0 := fun e => hq9 (HQ0.out.1 e)
        have hgk0 : gk ≠ 0 := by intro e; have h1 := HV.out; exact HGK0.out e hqq
        have HQN := Lib.hid hqq
        have HLT := Lib.hid (HQG.out hgk0)
        have HLEN : Hid ((D ++ [(d : Int)]).length = D.length + 1) := Lib.hid (by simp)
        have HRR : Hid (Rng 10 (D ++ [(d : Int)])) := Lib.hid (HR.out.append (by intro x hx; simp only [List.mem_singleton] at hx; subst hx; have := HDB.out; omega))
        have HNE1 : q1 = 0 → ¬ q2 = 0 := fun e1 e2 => hq9 ⟨e1, e2⟩
        have HNE := Lib.hid HNE1
        clear HNE1
        by_cases h1 : q1 = 0
        · have h2 := HNE.out h1
          have h2b : (q2 == 0) = false := beq_eq_false_iff_ne.2 h2
          clear hq9 hqq hgk0 HNE
          go_wp2
          go_roundg q
          case measure => exact HLT.out
          case rel => exact ⟨D ++ [(d : Int)], HQB, Lib.hid (by rw [HQ1.out.1, HQ1.out.2]; exact HZ7.out), HRR, Lib.hid (by rw [HLEN.out]; exact HST.out), Lib.hid (.inr HQN.out), Lib.hid (by rw [HYM.out, HLEN.out]; exact HO7.out), Lib.hid ⟨HW7.out, by omega, hW5⟩⟩
        · have h1b : (q1 == 0) = false := beq_eq_false_iff_ne.2 h1
          clear hq9 hqq hgk0 HNE
          go_wp2
          go_roundg q
          case measure => exact HLT.out
          case rel => exact ⟨D ++ [(d : Int)], HQB, Lib.hid (by rw [HQ1.out.1, HQ1.out.2]; exact HZ7.out), HRR, Lib.hid (by rw [HLEN.out]; exact HST.out), Lib.hid (.inr HQN.out), Lib.hid (by rw [HYM.out, HLEN.out]; exact HO7.out), Lib.hid ⟨HW7.out, by omega, hW5⟩⟩
set_option maxHeartbeats 8000000 in
set_option maxRecDepth 100000 in
theorem wtext_b (h l : Int) (w : World) (ha : WR h l) (hs : decide (h < 0) = true) :
    Calls Try.prog 39 #[.agg #[.int .i64 h, .int .u64 l]] w fun e w' => e = .returned (txt (txtZ (V h l))) ∧ Below w.heap.size w w' := by
  have hab := A_bounds h l ha
  have hof := fun w => Lib.hid (of_any h l w ha)
  obtain ⟨m, hm⟩ : ∃ m : Nat, A h l = (m : Int) := ⟨(A h l).toNat, by omega⟩
  have hmb : m ≤ 170141183460469231731687303715884105728 := by omega
  have hng : decide (V h l < 0) = decide (h < 0) := by obtain ⟨_, _, _, _⟩ := ha; apply decide_eq_decide.2; unfold V; omega
  have hab2 : (V h l).natAbs = m := by unfold A at hm; split at hm <;> omega
  have hTZ : txtZ (V h l) = if decide (h < 0) = true then 45 :: txtN m else txtN m := by unfold txtZ; rw [hab2, ← hng]; simp
  have HTZ := Lib.hid hTZ
  rw [hm] at hof
  clear hab hm hng hab2 hTZ ha
  generalize decide (h < 0) = sg at *
  have HSG := Lib.hid hs
  clear hs
  have HDV := fun (S : Nat) w (hS : S ≤ 170141183460469231731687303715884105728) => Lib.hid (divide_lo (S : Int) 10 w (by omega) (by omega) (by decide) (by decide))
  unfold Div at HDV
  go_enter Try.func39, Try.ntmps39
  go_upto_region 2 with (go_at_call 58; refine (hof _).out.mono ?_; rintro e w3 ⟨rfl, hb3⟩; have HB3 : Hid (Below w.heap.size w w3) := Lib.hid (Below.trans (by (repeat' (first | exact Below.refl _ _ | refine Below.drew ?_ | refine Below.setCell ?_ (by first | omega | (simp <;> omega)) _ | refine Below.alloc ?_ (by first | omega | (simp <;> omega)) _))) (hb3.mono (by first | omega | (simp <;> omega)))); clear hb3)
  have hX : Box2 (w3.alloc (.cells #[.int .u64 ((m : Int) / 18446744073709551616), .int .u64 ((m : Int) % 18446744073709551616)] 71)) w3.heap.size (.int .u64 ((m : Int) / 18446744073709551616)) (.int .u64 ((m : Int) % 18446744073709551616)) := by constructor <;> go_simp
  have HB4 : Hid (Below w.heap.size w (w3.alloc (.cells #[.int .u64 ((m : Int) / 18446744073709551616), .int .u64 ((m : Int) % 18446744073709551616)] 71))) := Lib.hid (HB3.out.alloc HB3.out.size _)
  have hlt4 : w3.heap.size < (w3.alloc (.cells #[.int .u64 ((m : Int) / 18446744073709551616), .int .u64 ((m : Int) % 18446744073709551616)] 71)).heap.size := by simp
  have HW4 := HB3.out.size
  generalize w3.alloc (.cells #[.int .u64 ((m : Int) / 18446744073709551616), .int .u64 ((m : Int) % 18446744073709551616)] 71) = W4 at hX HB4 hlt4 ⊢
  generalize w3.heap.size = b4 at *
  obtain ⟨B0, hB0⟩ : ∃ B, W4.heap.size = B := ⟨_, rfl⟩
  rw [hB0] at hlt4
  have HX := Lib.hid hX
  clear hX HB3
  have HB0 := Lib.hid hB0
  clear hB0 hof
  go_wp2
  go_loopg [5, 6] m (fun gk bv rv wr => ∃ (D : List Int), Hid (gk ≤ 170141183460469231731687303715884105728) ∧ Hid (Box2 wr b4 (.int .u64 ((gk : Int) / 18446744073709551616)) (.int .u64 ((gk : Int) % 18446744073709551616))) ∧ Hid (Rng 10 D) ∧ Hid (valB 10 D + 10 ^ D.length * gk = m) ∧ Hid (D = [] ∨ gk ≠ 0) ∧ Hid (wr.ownsRow B0 5 1 bv (D).length (((D).map (fun d => 48 + d)).map (Value.int .u8))) ∧ Hid (Below w.heap.size w wr ∧ B0 ≤ wr.heap.size ∧ w.heap.size ≤ b4))
  case atStart => exact ⟨[], Lib.hid hmb, HX, Lib.hid (fun x hx => by cases hx), Lib.hid (by simp [valB]), Lib.hid (.inl rfl), Lib.hid (World.ownsRow_nil _ _ _ _), Lib.hid ⟨HB4.out, by rw [HB0.out]; exact Nat.le_refl _, HW4⟩⟩
  case round =>
    obtain ⟨D, HGB, HBX, HR, HV, HE, HO, HW⟩ := hrel
    obtain ⟨wi, rfl⟩ : ∃ wi : World, wi = wr := ⟨_, rfl⟩
    obtain ⟨c0, c1, f0, f1⟩ := HBX.out
    have hDL : D.length < 200 := by
      by_cases hD : D = []
      · subst hD; decide
      · exact dec_len HV.out (Nat.pos_of_ne_zero (HE.out.resolve_left hD)) (Nat.lt_of_le_of_lt hmb (by decide))
    have hdv := fun w => HDV gk w HGB.out
    have z1 : (gk : Int) / 10 = ((gk / 10 : Nat) : Int) := rfl
    have z2 : (gk : Int) % 10 = ((gk % 10 : Nat) : Int) := rfl
    rw [z1, z2] at hdv
    obtain ⟨q, hq⟩ : ∃ q, gk / 10 = q := ⟨_, rfl⟩
    obtain ⟨d, hd⟩ : ∃ d, gk % 10 = d := ⟨_, rfl⟩
    rw [hq, hd] at hdv
    have hdb : d < 10 := by omega
    have z3 : (d : Int) / 18446744073709551616 = 0 := by omega
    have z4 : (d : Int) % 18446744073709551616 = (d : Int) := by omega
    rw [z3, z4] at hdv
    have hst := dec_step HV.out hd.symm
    rw [hq] at hst
    have hqg : gk ≠ 0 → q < gk := by omega
    have hgk00 : gk = 0 → q ≠ 0 → False := by omega
    have HGK0 := Lib.hid hgk00
    clear hgk00
    have hgq : q = 0 → gk = d := by omega
    have hqb : q ≤ 170141183460469231731687303715884105728 := by have := HGB.out; omega
    obtain ⟨q1, hq1⟩ : ∃ x, (q : Int) / 18446744073709551616 = x := ⟨_, rfl⟩
    obtain ⟨q2, hq2⟩ : ∃ x, (q : Int) % 18446744073709551616 = x := ⟨_, rfl⟩
    have hq0 : q = 0 ↔ (q1 = 0 ∧ q2 = 0) := by omega
    obtain ⟨g1, hg1⟩ : ∃ x, (gk : Int) / 18446744073709551616 = x := ⟨_, rfl⟩
    obtain ⟨g2, hg2⟩ : ∃ x, (gk : Int) % 18446744073709551616 = x := ⟨_, rfl⟩
    rw [hg1] at c0 hdv
    rw [hg2] at c1 hdv
    rw [hq1, hq2] at hdv
    have HDD : ∀ w, Hid (Calls Try.prog 67 #[.agg #[.int .u64 g1, .int .u64 g2], .agg #[.int .u64 0, .int .u64 10]] w fun e w' => e = .returned (.tuple #[.agg #[.int .u64 q1, .int .u64 q2], .agg #[.int .u64 0, .int .u64 (d : Int)]]) ∧ Below w.heap.size w w') := hdv
    obtain ⟨y, hy⟩ : ∃ y : Int, 48 + (d : Int) = y := ⟨_, rfl⟩
    have d7 : ∀ [Inhabited Unit], 48 + (d : Int) = y := by intro _; exact hy
    have d8 : ∀ [Inhabited Unit], IntKind.u64.wrap y = y := by intro _; rw [wrapU]; omega
    have d9 : ∀ [Inhabited Unit], IntKind.u8.wrap y = y := by intro _; simp only [IntKind.wrap, IntKind.bits, IntKind.signed]; simp; omega
    have HST := Lib.hid hst
    have HQ1 := Lib.hid (And.intro hq1 hq2)
    have HQ0 := Lib.hid hq0
    have HQG := Lib.hid hqg
    have HGQ := Lib.hid hgq
    have HQB := Lib.hid hqb
    have HDB := Lib.hid hdb
    have HYE := Lib.hid hy
    have hlt5 : b4 < B0 := hlt4
    have hB5 := HW.out.2.1
    have hW5 := HW.out.2.2
    have hb4i : b4 < wi.heap.size := by omega
    have hb4n : ¬ b4 = wi.heap.size := by omega
    have HYM : Hid ((D ++ [(d : Int)]).map (fun d => 48 + d) = D.map (fun d => 48 + d) ++ [y]) := Lib.hid (by rw [List.map_append]; simp [hy])
    clear hdv hst hq hd hdb z1 z2 z3 z4 hq1 hq2 hq0 hg1 hg2 hqg hgq hqb hy
    go_upto_region 5 with (go_at_call 67; refine (HDD _).out.mono ?_; rintro e w5 ⟨rfl, hb5⟩; have Y4 := Box2.below (b := b4) (v0 := .int .u64 g1) (v1 := .int .u64 g2) (by constructor <;> go_simp) hb5 (by first | omega | (simp <;> omega)); have Y6 := Box2.below (b := wi.heap.size) (v0 := .int .u64 0) (v1 := .int .u64 0) (by constructor <;> go_simp) hb5 (by simp); have hs5 := hb5.size; (try simp at hs5); have hb6 : Below wi.heap.size wi w5 := Below.trans ((Below.refl _ _).alloc (Nat.le_refl _) _) (hb5.mono (by simp)); have HO5 := Lib.hid (own_below HO.out hb6 (Nat.le_refl _)); have HW5 := Lib.hid (HW.out.1.trans (hb6.mono HW.out.1.size)); clear c0 c1 f0 f1 hb5 hb6; obtain ⟨c0, c1, f0, f1⟩ := Y4; obtain ⟨e0, e1, ef0, ef1⟩ := Y6)
    have Z4 : Box2 (((((w5).setCell ⟨b4, 0, none⟩ (.int .u64 q1)).setCell ⟨b4, 1, none⟩ (.int .u64 q2)).setCell ⟨wi.heap.size, 0, none⟩ (.int .u64 0)).setCell ⟨wi.heap.size, 1, none⟩ (.int .u64 (d : Int))) b4 (.int .u64 q1) (.int .u64 q2) := by constructor <;> go_simp
    have Z6 : Box2 (((((w5).setCell ⟨b4, 0, none⟩ (.int .u64 q1)).setCell ⟨b4, 1, none⟩ (.int .u64 q2)).setCell ⟨wi.heap.size, 0, none⟩ (.int .u64 0)).setCell ⟨wi.heap.size, 1, none⟩ (.int .u64 (d : Int))) wi.heap.size (.int .u64 0) (.int .u64 (d : Int)) := by constructor <;> go_simp
    skip
    have hn4 := own_ne HO.out hlt5
    have hn6 := fun e => Nat.lt_irrefl _ (HO.out.lt wi.heap.size e).2
    have hO6 := own_set (o := 1) (y := .int .u64 (d : Int)) (own_set (o := 0) (y := .int .u64 0) (own_set (o := 1) (y := .int .u64 q2) (own_set (o := 0) (y := .int .u64 q1) HO5.out hn4) hn4) hn6) hn6
    have hS6 : (((((w5).setCell ⟨b4, 0, none⟩ (.int .u64 q1)).setCell ⟨b4, 1, none⟩ (.int .u64 q2)).setCell ⟨wi.heap.size, 0, none⟩ (.int .u64 0)).setCell ⟨wi.heap.size, 1, none⟩ (.int .u64 (d : Int))).heap.size = w5.heap.size := by simp
    have hW6 : Below w.heap.size w (((((w5).setCell ⟨b4, 0, none⟩ (.int .u64 q1)).setCell ⟨b4, 1, none⟩ (.int .u64 q2)).setCell ⟨wi.heap.size, 0, none⟩ (.int .u64 0)).setCell ⟨wi.heap.size, 1, none⟩ (.int .u64 (d : Int))) := (((HW5.out.setCell (p := ⟨b4, 0, none⟩) hW5 _).setCell (p := ⟨b4, 1, none⟩) hW5 _).setCell (p := ⟨wi.heap.size, 0, none⟩) HW.out.1.size _).setCell (p := ⟨wi.heap.size, 1, none⟩) HW.out.1.size _
    generalize ((((w5).setCell ⟨b4, 0, none⟩ (.int .u64 q1)).setCell ⟨b4, 1, none⟩ (.int .u64 q2)).setCell ⟨wi.heap.size, 0, none⟩ (.int .u64 0)).setCell ⟨wi.heap.size, 1, none⟩ (.int .u64 (d : Int)) = W6 at Z4 Z6 hO6 hS6 hW6 ⊢
    have HO6 := Lib.hid hO6
    have HW6 := Lib.hid hW6
    clear c0 c1 f0 f1 e0 e1 ef0 ef1 hO6 hW6
    obtain ⟨c0, c1, f0, f1⟩ := id Z4
    obtain ⟨e0, e1, ef0, ef1⟩ := id Z6
    have HZ4 := Lib.hid Z4
    have hsz : B0 ≤ W6.heap.size := by omega
    clear Z4 Z6 hS6
    go_upto_region 6 with (at_builtin; go_loud ((refine append8 B0 _ D.length (D.map (fun d => 48 + d)) y _ _ _ rfl rfl rfl HO6.out rfl (by omega) hsz ?_); intro v' w7 hown1 hbel1 hz1 hz2; clear hz1 hz2; have HO7 := Lib.hid hown1; have hb7 := hbel1 B0 W6 (Nat.le_refl _) (Below.refl _ _); have HW7 := Lib.hid (HW6.out.trans (hb7.mono (by omega))); have HZ7 := Lib.hid (HZ4.out.below hb7 hlt5); have hs7 := hb7.size; clear hown1 hbel1 hb7 c0 c1 f0 f1; obtain ⟨c0, c1, f0, f1⟩ := id HZ7.out))
    by_cases hq9 : q1 = 0 ∧ q2 = 0
    · obtain ⟨h1, h2⟩ := hq9
      have hfin := dec_end HR.out (d := d) (m := m) (by have := HV.out; rw [HGQ.out (HQ0.out.2 ⟨h1, h2⟩)] at this; exact this) HDB.out (by rcases HE.out with h | h; exact .inl h; right; rw [← HGQ.out (HQ0.out.2 ⟨h1, h2⟩)]; exact h)
      rw [HYM.out] at hfin
      have HFIN := Lib.hid hfin
      obtain ⟨L, hL⟩ : ∃ L, D.map (fun d => 48 + d) ++ [y] = L := ⟨_, rfl⟩
      have hLl : D.length + 1 = L.length := by rw [← hL]; simp
      have hLr : ∀ x ∈ L, 0 ≤ x ∧ x ≤ 255 := by
        intro x hx
        rw [← hL] at hx
        rcases List.mem_append.1 hx with hx | hx
        · obtain ⟨z, hz, rfl⟩ := List.mem_map.1 hx
          have := HR.out z hz
          omega
        · simp only [List.mem_singleton] at hx
          subst hx
          have := HYE.out; have := HDB.out; omega
      rw [hL] at HO7 HFIN
      rw [hLl] at HO7
      have HLR := Lib.hid hLr
      have hLb : L.length < 201 := by omega
      have hL1 : 1 ≤ L.length := by omega
      subst h1 h2
      clear hfin hL hLl hLr HST HYM HV HE HO HR HQ1 HQ0 HQG HGQ HQB HDB HGB HBX HO5 HO6 HZ4 HZ7 HW HDD
      obtain ⟨N1, hN1⟩ : ∃ N, L.length = N := ⟨_, rfl⟩
      have hwg0 := hW5
      cases sg with
      | false =>
        exact absurd HSG.out (by decide)
      | true =>
        as_aux_lemma =>
          have HTX : Hid (txtZ (V h l) = (L ++ [45]).reverse) := Lib.hid (by rw [HTZ.out, HFIN.out]; simp)
          have hsz7 : B0 ≤ w7.heap.size := by omega
          clear HFIN HTZ
          go_upto_region 9 with (at_builtin; (refine append8 B0 _ L.length L 45 _ _ _ rfl rfl rfl HO7.out rfl (by omega) hsz7 ?_); intro v2 w8 hown1 hbel1 hz1 hz2; clear hz1 hz2; have HO8 := Lib.hid hown1; have hb8 := hbel1 B0 w7 (Nat.le_refl _) (Below.refl _ _); have HW8 := Lib.hid (HW7.out.trans (hb8.mono (by omega))); clear hown1 hbel1 hb8)
          obtain ⟨L2, hL2⟩ : ∃ L2, L ++ [45] = L2 := ⟨_, rfl⟩
          rw [hL2] at HO8 HTX
          have hN2 : L2.length = L.length + 1 := by rw [← hL2]; simp
          have HLR2 : Hid (∀ x ∈ L2, 0 ≤ x ∧ x ≤ 255) := Lib.hid (by intro x hx; rw [← hL2] at hx; rcases List.mem_append.1 hx with hx | hx; exact HLR.out x hx; simp only [List.mem_singleton] at hx; subst hx; omega)
          rw [← hN2] at HO8
          obtain ⟨N, hN⟩ : ∃ N, L2.length = N := ⟨_, rfl⟩
          rw [hN] at HO8
          have HLR := HLR2
          have HOL := HO8
          have HWL := HW8
          have HNL := Lib.hid hN
          have HWG : Hid (∀ g, B0 ≤ g → w.heap.size ≤ g) := Lib.hid (fun g hg => by omega)
          have hNb : N < 202 := by omega
          have hN1b : 1 ≤ N := by omega
          clear HO7 HW7 HO8 HW8 hL2 hN2 hN hN1 hLb hL1 HLR2
          obtain ⟨ad, cd, hdv, hsh⟩ := own_shape HOL.out
          obtain ⟨g, rfl, hg1, hg2⟩ := hsh.resolve_left (by omega)
          subst hdv
          have hwg := HWG.out g hg1
          have HCAP := Lib.hid (own_cap1 HOL.out)
          have eN : ∀ [Inhabited Unit], RowKit.wrap64 ((N : Int) - 1) = (N : Int) - 1 := by intro _; exact IntWalk.wrap64_in _ ⟨by omega, by omega⟩
          go_wp2
          go_loopw [7, 8] (fun iv kv wr => ∃ (i : Nat) (I : Int) (M : List Int), iv = .int .i64 i ∧ kv = .int .i64 I ∧ (i : Int) + I + 1 = N ∧ i ≤ N ∧ -1 ≤ I ∧ Hid (M.length = L2.length) ∧ Hid (∀ x : Nat, x < L2.length → M[x]?.getD 0 = turned L2 i x) ∧ Hid (wr.ownsRow B0 5 1 (.slice (some ⟨g, 0, none⟩) N cd) N ((M).map (Value.int .u8))) ∧ Hid (Below w.heap.size w wr)) (fun iv _ _ => N - (intOf iv).toNat)
          case atStart => exact ⟨0, (N : Int) - 1, L2, rfl, rfl, by omega, Nat.zero_le _, by omega, Lib.hid rfl, Lib.hid (fun x hx => by unfold turned; rw [if_neg (by omega)]), HOL, HWL⟩
          case round =>
            clear HOL HWL eN
            obtain ⟨i, I, M, rfl, rfl, hsum, hiN, hI1, HML, HMT, HOM, HWM⟩ := hrel
            obtain ⟨wj, rfl⟩ : ∃ wj : World, wj = wr := ⟨_, rfl⟩
            by_cases hik : (i : Int) < I
            · obtain ⟨k, rfl⟩ : ∃ k : Nat, I = (k : Int) := ⟨I.toNat, by omega⟩
              have hkL : i + k + 1 = L2.length := by have := HNL.out; omega
              have hts := turned_step HML.out hkL (by omega) HMT.out
              clear hkL
              have ci := own_cell HOM.out (j := i) (by omega)
              have ck := own_cell HOM.out (j := k) (by omega)
              have fi := HOM.out.frozenAt i
              have fk := HOM.out.frozenAt k
              obtain ⟨vi, hvi⟩ : ∃ v, M[i]?.getD 0 = v := ⟨_, rfl⟩
              obtain ⟨vk, hvk⟩ : ∃ v, M[k]?.getD 0 = v := ⟨_, rfl⟩
              rw [hvi, hvk] at hts
              rw [hvi] at ci
              rw [hvk] at ck
              have iN : (i : Int) < (N : Int) := by omega
              have i0 : (0 : Int) ≤ (i : Int) := by omega
              have kN : (k : Int) < (N : Int) := by omega
              have k0 : (0 : Int) ≤ (k : Int) := by omega
              have hnik : ¬ i = k := by omega
              have hnki : ¬ k = i := by omega
              have ei : ∀ [Inhabited Unit], RowKit.wrap64 ((i : Int) + 1) = (i : Int) + 1 := by intro _; exact IntWalk.wrap64_in _ ⟨by omega, by omega⟩
              have ek : ∀ [Inhabited Unit], RowKit.wrap64 ((k : Int) - 1) = (k : Int) - 1 := by intro _; exact IntWalk.wrap64_in _ ⟨by omega, by omega⟩
              have HT1 := Lib.hid hts.1
              have HT2 := Lib.hid hts.2
              have HS := Lib.hid hsum
              have HIN := Lib.hid hiN
              have HIK := Lib.hid hik
              have HO2 : ∀ d, Hid (((wj.drewN d).setCell ⟨g, i, none⟩ (.int .u8 vk)).setCell ⟨g, k, none⟩ (.int .u8 vi) |>.ownsRow B0 5 1 (.slice (some ⟨g, 0, none⟩) N cd) N ((((M.set i vk).set k vi)).map (Value.int .u8))) := fun d => Lib.hid (stored_u8 (stored_u8 (w := wj.drewN d) HOM.out i vk) k vi)
              have HO3 : Hid (((wj.drew).setCell ⟨g, i, none⟩ (.int .u8 vk)).setCell ⟨g, k, none⟩ (.int .u8 vi) |>.ownsRow B0 5 1 (.slice (some ⟨g, 0, none⟩) N cd) N ((((M.set i vk).set k vi)).map (Value.int .u8))) := Lib.hid (stored_u8 (stored_u8 (w := wj.drew) HOM.out i vk) k vi)
              have HW3 : Hid (Below w.heap.size w (((wj.drew).setCell ⟨g, i, none⟩ (.int .u8 vk)).setCell ⟨g, k, none⟩ (.int .u8 vi))) := Lib.hid (((Below.drew HWM.out).setCell (p := ⟨g, i, none⟩) hwg _).setCell (p := ⟨g, k, none⟩) hwg _)
              have hikn : i < k := by omega
              clear hts hvi hvk hsum hiN hI1 hik HMT HO2
              go_upto_region 12 with fail
              refine wp_region_any (by kernel_rfl) ?_
              try (change wpAny _ _ _ _ _ _ _ (World.drew _))
              refine wpAny_takeD (i := 0) (dst := some 44) (v := (.slice (some ⟨g, 0, none⟩) N cd)) rfl rfl (by kernel_rfl) (by kernel_rfl) (by kernel_rfl) (fun _ _ _ h => h) (by rfl) (fun w => by go_simp) ?_
              try simp only [Act.put, List.setIfInBounds_toArray, List.set_cons_zero, List.set_cons_succ]
              refine wpAny_takeD (i := 1) (dst := some 45) (v := (.int .i64 (i : Int))) rfl rfl (by kernel_rfl) (by kernel_rfl) (by kernel_rfl) (fun _ _ _ h => h) (by rfl) (fun w => by go_simp) ?_
              try simp only [Act.put, List.setIfInBounds_toArray, List.set_cons_zero, List.set_cons_succ]
              refine wpAny_takeD (i := 2) (dst := some 46) (v := (.slice (some ⟨g, 0, none⟩) N cd)) rfl rfl (by kernel_rfl) (by kernel_rfl) (by kernel_rfl) (fun _ _ _ h => h) (by rfl) (fun w => by go_simp) ?_
              try simp only [Act.put, List.setIfInBounds_toArray, List.set_cons_zero, List.set_cons_succ]
              refine wpAny_takeD (i := 3) (dst := some 47) (v := (.int .i64 (k : Int))) rfl rfl (by kernel_rfl) (by kernel_rfl) (by kernel_rfl) (fun _ _ _ h => h) (by rfl) (fun w => by go_simp) ?_
              try simp only [Act.put, List.setIfInBounds_toArray, List.set_cons_zero, List.set_cons_succ]
              refine wpAny_takeD (i := 4) (dst := some 48) (v := (.slice (some ⟨g, 0, none⟩) N cd)) rfl rfl (by kernel_rfl) (by kernel_rfl) (by kernel_rfl) (fun _ _ _ h => h) (by rfl) (fun w => by go_simp) ?_
              try simp only [Act.put, List.setIfInBounds_toArray, List.set_cons_zero, List.set_cons_succ]
              refine wpAny_takeD (i := 5) (dst := some 49) (v := (.int .i64 (k : Int))) rfl rfl (by kernel_rfl) (by kernel_rfl) (by kernel_rfl) (fun _ _ _ h => h) (by rfl) (fun w => by go_simp) ?_
              try simp only [Act.put, List.setIfInBounds_toArray, List.set_cons_zero, List.set_cons_succ]
              refine wpAny_takeD (i := 8) (dst := some 52) (v := (.slice (some ⟨g, 0, none⟩) N cd)) rfl rfl (by kernel_rfl) (by kernel_rfl) (by kernel_rfl) (fun _ _ _ h => h) (by rfl) (fun w => by go_simp) ?_
              try simp only [Act.put, List.setIfInBounds_toArray, List.set_cons_zero, List.set_cons_succ]
              refine wpAny_takeD (i := 9) (dst := some 53) (v := (.int .i64 (i : Int))) rfl rfl (by kernel_rfl) (by kernel_rfl) (by kernel_rfl) (fun _ _ _ h => h) (by rfl) (fun w => by go_simp) ?_
              try simp only [Act.put, List.setIfInBounds_toArray, List.set_cons_zero, List.set_cons_succ]
              refine wpAny_takeD (i := 6) (dst := some 50) (v := (.pointer (some ⟨g, k, none⟩))) rfl rfl (by kernel_rfl) (by kernel_rfl) (by kernel_rfl) (fun _ _ _ h => h) (by rfl) (fun w => by go_simp) ?_
              try simp only [Act.put, List.setIfInBounds_toArray, List.set_cons_zero, List.set_cons_succ]
              refine wpAny_takeD (i := 10) (dst := some 54) (v := (.pointer (some ⟨g, i, none⟩))) rfl rfl (by kernel_rfl) (by kernel_rfl) (by kernel_rfl) (fun _ _ _ h => h) (by rfl) (fun w => by go_simp) ?_
              try simp only [Act.put, List.setIfInBounds_toArray, List.set_cons_zero, List.set_cons_succ]
              refine wpAny_ready (rs := [7, 11]) (by kernel_rfl) (by simp) (AllReady.cons rfl (fun KK hK => ?_) (AllReady.cons rfl (fun KK hK => ?_) AllReady.nil))
              · as_aux_lemma =>
                  replace hK := Lib.hid hK
                  first | go_big_op | go_simp
                  refine hK.out _ _ ?_
                  clear hK KK
                  try simp only [Act.put, List.setIfInBounds_toArray, List.set_cons_zero, List.set_cons_succ]
                  refine wpAny_ready (rs := [11]) (by kernel_rfl) (by simp) (AllReady.cons rfl (fun KK hK => ?_) AllReady.nil)
                  replace hK := Lib.hid hK
                  first | go_big_op | go_simp
                  refine hK.out _ _ ?_
                  clear hK KK
                  try simp only [Act.put, List.setIfInBounds_toArray, List.set_cons_zero, List.set_cons_succ]
                  refine wpAny_takeD (i := 12) (dst := some 56) (v := (.pointer (some ⟨g, i, none⟩))) rfl rfl (by kernel_rfl) (by kernel_rfl) (by kernel_rfl) (fun _ _ _ h => h) (by rfl) (fun w => by go_simp) ?_
                  try simp only [Act.put, List.setIfInBounds_toArray, List.set_cons_zero, List.set_cons_succ]
                  refine wpAny_ready (rs := [13]) (by kernel_rfl) (by simp) (AllReady.cons rfl (fun KK hK => ?_) AllReady.nil)
                  replace hK := Lib.hid hK
                  first | go_big_op | go_simp
                  refine hK.out _ _ ?_
                  clear hK KK
                  try simp only [Act.put, List.setIfInBounds_toArray, List.set_cons_zero, List.set_cons_succ]
                  refine wpAny_takeD (i := 14) (dst := some 57) (v := (.pointer (some ⟨g, k, none⟩))) rfl rfl (by kernel_rfl) (by kernel_rfl) (by kernel_rfl) (fun _ _ _ h => h) (by rfl) (fun w => by go_simp) ?_
                  try simp only [Act.put, List.setIfInBounds_toArray, List.set_cons_zero, List.set_cons_succ]
                  refine wpAny_ready (rs := [15]) (by kernel_rfl) (by simp) (AllReady.cons rfl (fun KK hK => ?_) AllReady.nil)
                  replace hK := Lib.hid hK
                  first | go_big_op | go_simp
                  refine hK.out _ _ ?_
                  clear hK KK
                  try simp only [Act.put, List.setIfInBounds_toArray, List.set_cons_zero, List.set_cons_succ]
                  refine wpAny_done (by kernel_rfl) ?_ _
                  go_wp2
                  go_roundw
                  case rel => exact ⟨i + 1, (k : Int) - 1, (M.set i vk).set k vi, rfl, rfl, by (have := HS.out; omega), by (have := HS.out; have := HIK.out; omega), by omega, HT1, HT2, HO3, HW3⟩
                  case measure => (have := HIK.out; have := HS.out; simp [intOf]; omega)
              · as_aux_lemma =>
                  replace hK := Lib.hid hK
                  first | go_big_op | go_simp
                  refine hK.out _ _ ?_
                  clear hK KK
                  try simp only [Act.put, List.setIfInBounds_toArray, List.set_cons_zero, List.set_cons_succ]
                  refine wpAny_ready (rs := [7]) (by kernel_rfl) (by simp) (AllReady.cons rfl (fun KK hK => ?_) AllReady.nil)
                  replace hK := Lib.hid hK
                  first | go_big_op | go_simp
                  refine hK.out _ _ ?_
                  clear hK KK
                  try simp only [Act.put, List.setIfInBounds_toArray, List.set_cons_zero, List.set_cons_succ]
                  refine wpAny_takeD (i := 12) (dst := some 56) (v := (.pointer (some ⟨g, i, none⟩))) rfl rfl (by kernel_rfl) (by kernel_rfl) (by kernel_rfl) (fun _ _ _ h => h) (by rfl) (fun w => by go_simp) ?_
                  try simp only [Act.put, List.setIfInBounds_toArray, List.set_cons_zero, List.set_cons_succ]
                  refine wpAny_ready (rs := [13]) (by kernel_rfl) (by simp) (AllReady.cons rfl (fun KK hK => ?_) AllReady.nil)
                  replace hK := Lib.hid hK
                  first | go_big_op | go_simp
                  refine hK.out _ _ ?_
                  clear hK KK
                  try simp only [Act.put, List.setIfInBounds_toArray, List.set_cons_zero, List.set_cons_succ]
                  refine wpAny_takeD (i := 14) (dst := some 57) (v := (.pointer (some ⟨g, k, none⟩))) rfl rfl (by kernel_rfl) (by kernel_rfl) (by kernel_rfl) (fun _ _ _ h => h) (by rfl) (fun w => by go_simp) ?_
                  try simp only [Act.put, List.setIfInBounds_toArray, List.set_cons_zero, List.set_cons_succ]
                  refine wpAny_ready (rs := [15]) (by kernel_rfl) (by simp) (AllReady.cons rfl (fun KK hK => ?_) AllReady.nil)
                  replace hK := Lib.hid hK
                  first | go_big_op | go_simp
                  refine hK.out _ _ ?_
                  clear hK KK
                  try simp only [Act.put, List.setIfInBounds_toArray, List.set_cons_zero, List.set_cons_succ]
                  refine wpAny_done (by kernel_rfl) ?_ _
                  go_wp2
                  go_roundw
                  case rel => exact ⟨i + 1, (k : Int) - 1, (M.set i vk).set k vi, rfl, rfl, by (have := HS.out; omega), by (have := HS.out; have := HIK.out; omega), by omega, HT1, HT2, HO3, HW3⟩
                  case measure => (have := HIK.out; have := HS.out; simp [intOf]; omega)
            · have hend := turned_end HML.out (by rw [HNL.out]; exact hsum) hik HMT.out
              rw [← HTX.out] at hend
              have HEN := Lib.hid hend
              have hownM := HOM.out
              rw [HEN.out] at hownM
              obtain ⟨a4, c4, he, hI2⟩ := own_ints hownM (fun x hx => by rw [HTX.out] at hx; exact wf_u8_iff.2 (HLR.out x (List.mem_reverse.1 hx)))
              have hlt := own_len hownM
              injection he with e1 e2 e3
              clear hlt
              subst e1 e3
              have hne : txtZ (V h l) ≠ [] := by intro e; rw [e] at e2; simp at e2; omega
              have hcv := run_txt (c := cd) hI2 hne
              rw [← e2] at hcv
              clear hend hownM hI2 hne e2 HEN hsum hiN hI1
              go_wp2
              go_ret
              exact ⟨rfl, HWM.out⟩
    · as_aux_lemma =>
        have hqq : q ≠ 0 := fun e => hq9 (HQ0.out.1 e)
        have hgk0 : gk ≠ 0 := by intro e; have h1 := HV.out; exact HGK0.out e hqq
        have HQN := Lib.hid hqq
        have HLT := Lib.hid (HQG.out hgk0)
        have HLEN : Hid ((D ++ [(d : Int)]).length = D.length + 1) := Lib.hid (by simp)
        have HRR : Hid (Rng 10 (D ++ [(d : Int)])) := Lib.hid (HR.out.append (by intro x hx; simp only [List.mem_singleton] at hx; subst hx; have := HDB.out; omega))
        have HNE1 : q1 = 0 → ¬ q2 = 0 := fun e1 e2 => hq9 ⟨e1, e2⟩
        have HNE := Lib.hid HNE1
        clear HNE1
        by_cases h1 : q1 = 0
        · have h2 := HNE.out h1
          have h2b : (q2 == 0) = false := beq_eq_false_iff_ne.2 h2
          clear hq9 hqq hgk0 HNE
          go_wp2
          go_roundg q
          case measure => exact HLT.out
          case rel => exact ⟨D ++ [(d : Int)], HQB, Lib.hid (by rw [HQ1.out.1, HQ1.out.2]; exact HZ7.out), HRR, Lib.hid (by rw [HLEN.out]; exact HST.out), Lib.hid (.inr HQN.out), Lib.hid (by rw [HYM.out, HLEN.out]; exact HO7.out), Lib.hid ⟨HW7.out, by omega, hW5⟩⟩
        · have h1b : (q1 == 0) = false := beq_eq_false_iff_ne.2 h1
          clear hq9 hqq hgk0 HNE
          go_wp2
          go_roundg q
          case measure => exact HLT.out
          case rel => exact ⟨D ++ [(d : Int)], HQB, Lib.hid (by rw [HQ1.out.1, HQ1.out.2]; exact HZ7.out), HRR, Lib.hid (by rw [HLEN.out]; exact HST.out), Lib.hid (.inr HQN.out), Lib.hid (by rw [HYM.out, HLEN.out]; exact HO7.out), Lib.hid ⟨HW7.out, by omega, hW5⟩⟩
theorem wtext_any (h l : Int) (w : World) (ha : WR h l) :
    Calls Try.prog 39 #[.agg #[.int .i64 h, .int .u64 l]] w fun e w' => e = .returned (txt (txtZ (V h l))) ∧ Below w.heap.size w w' := by
  cases hs : decide (h < 0) with
  | false => exact wtext_a h l w ha hs
  | true => exact wtext_b h l w ha hs
end Go.Proofs.Ytlbmpdidmckgkaa
