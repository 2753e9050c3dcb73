/- Walks, taken out of other texts by program: products of matrices. -/
import Derived.Test.YtadlnmckcnfacaaCoQ
import Derived.Test.YtadlnmckcnfacaaCoJ
import Derived.Test.YtadlnmckcnfacaaCoV
import Derived.Test.YtadlnmckcnfacaaRdV
import Derived.BigQuiet
import Derived.Deep.Cut
import Derived.Deep.CutBlock
import Derived.Deep.CutRange
import Derived.Deep.QuietTactic
import Derived.Deep.RegionHeld3
import Derived.Deep.RegionLaw
import Derived.Deep.RegionWith
import Derived.Laws.Cover3
import Derived.WalkMore
set_option linter.unusedVariables false
set_option linter.unusedSimpArgs false
namespace Go.Proofs.Ytadlnmckcnfacaa
open Go.RowKit Go.Rt
theorem ownB_nil (w : World) (base mid : Nat) (e : TypeId) : OwnB w base mid e (.slice none 0 0) 0 [] := ⟨World.ownsRow_nil _ _ _ _, fun g h => by simp [Value.ownBlock] at h⟩
theorem OwnB.shape {w : World} {base mid : Nat} {e : TypeId} {a : Option Addr} {n c : Nat} {xs : List Value} (h : OwnB w base mid e (.slice a n c) n xs) : n = 0 ∨ ∃ g, a = some ⟨g, 0, none⟩ ∧ base ≤ g := by
  obtain ⟨a', c', he, hh⟩ := own_shape h.own
  cases he
  exact hh.imp id (fun ⟨g, h1, h2, _⟩ => ⟨g, h1, h2⟩)
set_option maxHeartbeats 1000000 in
set_option maxHeartbeats 400000 in
theorem slicesEqual_any (a a2 : Option Addr) (c c2 hi : Nat) (xs ys : List Int) (w : World) (h : Ints .i64 w hi a xs) (h2 : Ints .i64 w hi a2 ys) :
    Calls Try.prog 48 #[.slice a xs.length c, .slice a2 ys.length c2] w fun e w' => e = .returned (.bool (decide (xs = ys))) ∧ ∃ q, w' = w.drewN q := by
  obtain ⟨hm, _, hc⟩ := h
  obtain ⟨hm2, _, hc2⟩ := h2
  by_cases hl : xs.length = ys.length
  · have hl1 : ((xs.length : Int) == (ys.length : Int)) = true := by simp; omega
    have hl2 : ((xs.length : Int) != (ys.length : Int)) = false := by simp; omega
    have HL := Lib.hid hl
    clear hl
    go_enter Try.func48, Try.ntmps48
    go_wp2
    go_loopw [13] (fun i wr => ∃ k : Nat, k ≤ xs.length ∧ i = .int .i64 k ∧ xs.take k = ys.take k ∧ ∃ q, wr = w.drewN q) (fun i _ => xs.length - (intOf i).toNat)
    case atStart => exact ⟨0, Nat.zero_le _, rfl, rfl, 0, rfl⟩
    case round =>
      obtain ⟨k, hk, rfl, htk, q, rfl⟩ := hrel
      have HT := Lib.hid htk
      clear htk
      by_cases hlt : k < xs.length
      · have hlt2 : k < ys.length := by have := HL.out; omega
        obtain ⟨b, off, rfl, _, hcell⟩ := hc k hlt
        obtain ⟨b2, off2, rfl, _, hcell2⟩ := hc2 k hlt2
        clear hc hc2
        rw [List.getElem?_eq_getElem hlt] at hcell
        rw [List.getElem?_eq_getElem hlt2] at hcell2
        simp only [Option.getD_some] at hcell hcell2
        by_cases he : xs[k] = ys[k]
        · have he1 : (xs[k] == ys[k]) = true := by simp [he]
          have he2 : (xs[k] != ys[k]) = false := by simp [he]
          have HE := Lib.hid he
          clear he
          go_wp2
          go_quiet (fail)
          go_wp2
          go_roundw
          case rel => exact ⟨k + 1, by omega, by go_num, by rw [take_snoc _ _ hlt, take_snoc _ _ hlt2, HT.out, HE.out], _, by first | rfl | exact World.drewN_drewN _ _ _⟩
          case measure => simp [intOf]; omega
        · have he1 : (xs[k] == ys[k]) = false := by simp [he]
          have he2 : (xs[k] != ys[k]) = true := by simp [he]
          have HE := Lib.hid (take_ne k hlt hlt2 he)
          clear he
          go_wp2
          go_quiet (fail)
          go_wp2
          go_ret
          exact ⟨ret_bool (by simp [HE.out]), _, by first | rfl | exact World.drewN_drewN _ _ _⟩
      · have hke : k = xs.length := by omega
        subst hke
        have HX : Hid (xs = ys) := by
          have := HT.out
          rw [List.take_length, HL.out, List.take_length] at this
          exact this
        go_wp2
        go_ret
        exact ⟨ret_bool (by simp [HX.out]), _, rfl⟩
  · have hl1 : ((xs.length : Int) == (ys.length : Int)) = false := by simp; omega
    have hl2 : ((xs.length : Int) != (ys.length : Int)) = true := by simp; omega
    have HX : Hid (¬ xs = ys) := fun e => hl (by rw [e])
    clear hl
    go_enter Try.func48, Try.ntmps48
    go_wp2
    go_ret
    exact ⟨ret_bool (by simp [HX.out]), 0, rfl⟩
/-- The sum of the first k products: row by column, whose words stand st apart. -/
def dotK (xs ys : List Int) (st : Nat) : Nat → Int
  | 0 => 0
  | k + 1 => dotK xs ys st k + xs[k]?.getD 0 * ys[k * st]?.getD 0
theorem word_mul (x y : Int) (hx : isW x = true) (hy : isW y = true) : -19807040628566084398385987584 ≤ x * y ∧ x * y ≤ 19807040628566084398385987584 := by
  have h1 := isW_iff.1 hx
  have h2 := isW_iff.1 hy
  have a1 : absI x ≤ 140737488355328 ∧ 0 ≤ absI x := by unfold absI; split <;> omega
  have a2 : absI y ≤ 140737488355328 ∧ 0 ≤ absI y := by unfold absI; split <;> omega
  have h := Int.mul_le_mul a1.1 a2.1 a2.2 (by omega)
  have h0 := Int.mul_nonneg a1.2 a2.2
  have e := abs_mul x y
  split at e <;> omega
theorem dotK_bound (xs ys : List Int) (st : Nat) (hx : ∀ x ∈ xs, isW x = true) (hy : ∀ y ∈ ys, isW y = true) : ∀ k : Nat, -(k * 19807040628566084398385987584 : Int) ≤ dotK xs ys st k ∧ dotK xs ys st k ≤ k * 19807040628566084398385987584
  | 0 => by simp [dotK]
  | k + 1 => by
    have ih := dotK_bound xs ys st hx hy k
    have hw : ∀ (l : List Int) (j : Nat), (∀ x ∈ l, isW x = true) → isW (l[j]?.getD 0) = true := fun l j h => by
      by_cases hj : j < l.length
      · rw [List.getElem?_eq_getElem hj]; exact h _ (List.getElem_mem hj)
      · rw [List.getElem?_eq_none (by omega)]; decide
    have hm := word_mul _ _ (hw xs k hx) (hw ys (k * st) hy)
    simp only [dotK]
    rw [Int.natCast_add, Int.add_mul]
    omega
set_option maxHeartbeats 1000000 in
set_option maxRecDepth 100000 in
theorem dot_any (a b : Option Addr) (c d st : Nat) (xs ys : List Int) (w : World) (h : Ints .i64 w w.heap.size a xs) (h2 : Ints .i64 w w.heap.size b ys) (hx : ∀ x ∈ xs, isW x = true) (hy : ∀ y ∈ ys, isW y = true)
    (hin : ∀ k, k < xs.length → k * st < ys.length) (hlen : xs.length ≤ 65536) (hylen : ys.length ≤ 65536) :
    Calls Try.prog 61 #[.slice a xs.length c, .slice b ys.length d, .int .i64 st] w (RetW w (dotK xs ys st xs.length / 18446744073709551616) (dotK xs ys st xs.length % 18446744073709551616)) := by
  obtain ⟨hm, _, hc⟩ := h
  obtain ⟨hm2, _, hc2⟩ := h2
  have HBD := Lib.hid (dotK_bound xs ys st hx hy)
  have HX := Lib.hid hx
  have HY := Lib.hid hy
  clear hx hy
  go_enter Try.func61, Try.ntmps61
  go_wp2
  go_loopw [12] (fun i wr => ∃ k : Nat, k ≤ xs.length ∧ i = .int .i64 k ∧ w.heap.size + 1 + 1 ≤ wr.heap.size ∧ Below w.heap.size w wr ∧ Hid (Box2 wr w.heap.size (.int .i64 0) (.int .u64 0)) ∧ Hid (Box2 wr (w.heap.size + 1) (.int .i64 (dotK xs ys st k / 18446744073709551616)) (.int .u64 (dotK xs ys st k % 18446744073709551616)))) (fun i _ => xs.length - (intOf i).toNat)
  case atStart => exact ⟨0, Nat.zero_le _, rfl, by simp, (by (repeat' (first | exact Below.refl _ _ | refine Below.drew ?_ | refine Below.setCell ?_ (by first | omega | (simp <;> omega)) _ | refine Below.alloc ?_ (by first | omega | (simp <;> omega)) _))), Lib.hid (by constructor <;> go_simp), Lib.hid (by rw [show dotK xs ys st 0 = 0 from rfl]; constructor <;> go_simp)⟩
  case round =>
    obtain ⟨k, hk, rfl, hsz, hbel, HR, HT⟩ := hrel
    have HB := Lib.hid hbel
    by_cases hlt : k < xs.length
    · obtain ⟨ba, off, rfl, hlb, hcell⟩ := hc k hlt
      obtain ⟨bb, off2, rfl, hlb2, hcell2⟩ := hc2 (k * st) (hin k hlt)
      have hin2 := hin k hlt
      clear hc hc2 hin
      have hcx := (hbel.cell (p := ⟨ba, off + k, none⟩) hlb).trans hcell
      have hcy := (hbel.cell (p := ⟨bb, off2 + k * st, none⟩) hlb2).trans hcell2
      clear hcell hcell2 hbel
      have hbk := HBD.out k
      have hbk1 := HBD.out (k + 1)
      have HN : Hid (dotK xs ys st (k + 1) = dotK xs ys st k + xs[k]?.getD 0 * ys[k * st]?.getD 0) := Lib.hid rfl
      have hwx : isW (xs[k]?.getD 0) = true := by rw [List.getElem?_eq_getElem hlt]; exact HX.out _ (List.getElem_mem hlt)
      have hwy : isW (ys[k * st]?.getD 0) = true := by rw [List.getElem?_eq_getElem hin2]; exact HY.out _ (List.getElem_mem hin2)
      have hwm := word_mul _ _ hwx hwy
      have hwx' := isW_iff.1 hwx
      have hwy' := isW_iff.1 hwy
      generalize xs[k]?.getD 0 = x at hcx HN hwm hwx'
      generalize ys[k * st]?.getD 0 = y at hcy HN hwm hwy'
      have ewk : IntKind.i64.wrap ((k : Int) * st) = ((k * st : Nat) : Int) := by rw [IntKind.wrap_i64, Int.natCast_mul]; have : (k : Int) * st = ((k * st : Nat) : Int) := (Int.natCast_mul k st).symm; omega
      have hmul := fun w => Lib.hid (mul_any x y w (by omega) (by omega) (by omega) (by omega))
      rw [HN.out] at hbk1
      generalize hS : dotK xs ys st k = S at HT HN hbk hbk1
      generalize hPxy : x * y = Pxy at hmul HN hwm hbk1
      have hadd := fun w => Lib.hid (add_in (S / 18446744073709551616) (S % 18446744073709551616) (Pxy / 18446744073709551616) (Pxy % 18446744073709551616) w ⟨by omega, by omega, by omega, by omega⟩ ⟨by omega, by omega, by omega, by omega⟩ (by rw [V_split3, V_split3]; exact ⟨by omega, by omega⟩))
      rw [V_split3, V_split3] at hadd
      have HN2 : Hid (dotK xs ys st (k + 1) = S + Pxy) := HN
      clear HN hbk hbk1 hwx hwy hwx' hwy' hPxy hwm
      generalize hSH : S / 18446744073709551616 = SH at hadd HT
      generalize hSL : S % 18446744073709551616 = SL at hadd HT
      generalize hPH : Pxy / 18446744073709551616 = PH at hadd hmul
      generalize hPL : Pxy % 18446744073709551616 = PL at hadd hmul
      generalize hN : S + Pxy = N at hadd HN2
      generalize hNH : N / 18446744073709551616 = NH at hadd
      generalize hNL : N % 18446744073709551616 = NL at hadd
      have HNH := Lib.hid hNH
      have HNL := Lib.hid hNL
      clear hS hSH hSL hPH hPL hN hNH hNL
      obtain ⟨t0, t1, t2, t3⟩ := HT.out
      go_wp2
      go_region_with (first | (go_at_call 40; refine (hmul _).out.mono ?_; rintro e w1 ⟨rfl, hb⟩; have HB1 := Lib.hid hb; have hs1 := hb.size; (try simp at hs1); have X := (HT.out.below (n := wr.heap.size) (by (repeat' (first | exact Below.refl _ _ | refine Below.drew ?_ | refine Below.setCell ?_ (by first | omega | (simp <;> omega)) _ | refine Below.alloc ?_ (by first | omega | (simp <;> omega)) _))) (by first | omega | (simp <;> omega))).below hb (by first | omega | (simp <;> omega)); have HX1 := Lib.hid X; obtain ⟨p0, p1, p2, p3⟩ := X; clear hb) | (go_at_call 39; refine (hadd _).out.mono ?_; rintro e w2 ⟨rfl, hb⟩; have HB2 := Lib.hid hb; have hs2 := hb.size; (try simp at hs2); have X := HX1.out.below hb (by first | omega | (simp <;> omega)); have HX2 := Lib.hid X; obtain ⟨q0, q1, q2, q3⟩ := X; clear hb))
      all_goals
        go_wp2
        go_roundw
        case measure => simp [intOf]; omega
        case rel =>
          have R := ((HR.out.below (n := wr.heap.size) (by (repeat' (first | exact Below.refl _ _ | refine Below.drew ?_ | refine Below.setCell ?_ (by first | omega | (simp <;> omega)) _ | refine Below.alloc ?_ (by first | omega | (simp <;> omega)) _))) (by first | omega | (simp <;> omega))).below HB1.out (by first | omega | (simp <;> omega))).below HB2.out (by first | omega | (simp <;> omega))
          obtain ⟨r0, r1, r2, r3⟩ := R
          have hl2 : w.heap.size + 1 + 1 ≤ w2.heap.size := by omega
          refine ⟨k + 1, by omega, by go_num, by simpa using hl2, ?_, Lib.hid ?_, Lib.hid ?_⟩
          · iterate 2 refine Below.setCell ?_ (by first | omega | (simp <;> omega)) _
            exact HB.out.trans (Below.trans (by (repeat' (first | exact Below.refl _ _ | refine Below.drew ?_ | refine Below.setCell ?_ (by first | omega | (simp <;> omega)) _ | refine Below.alloc ?_ (by first | omega | (simp <;> omega)) _))) (Below.trans (HB1.out.mono (by first | omega | (simp <;> omega))) (HB2.out.mono (by first | omega | (simp <;> omega)))))
          · constructor <;> go_simp
          · rw [HN2.out, HNH.out, HNL.out]
            constructor <;> go_simp
    · have hke : k = xs.length := by omega
      subst hke
      obtain ⟨t0, t1, t2, t3⟩ := HT.out
      obtain ⟨r0, r1, r2, r3⟩ := HR.out
      clear hc hc2 hbel HT HR
      go_wp2
      (try simp only [Exit.noGoto, Exit.inBlock, Exit.then])
      refine bodyPost_ret (v := .agg #[.int .i64 (dotK xs ys st xs.length / 18446744073709551616), .int .u64 (dotK xs ys st xs.length % 18446744073709551616)]) (by rw [results_c1 rfl]; go_simp) rfl ⟨rfl, ?_⟩
      iterate 2 refine Below.setCell ?_ (by first | omega | (simp <;> omega)) _
      exact HB.out
theorem all1_any (a b : Option Addr) (c d : Nat) (xs ys : List Int) (w : World) (h : Ints .i64 w w.heap.size a xs) (h2 : Ints .i64 w w.heap.size b ys) (ht : tenB xs ys = true) :
    Calls Try.prog 66 #[.agg #[.slice a xs.length c, .slice b ys.length d]] w fun e w' => e = .returned (.bool false) ∧ Below w.heap.size w w' := by
  have hg := fun w' (hb : Below w.heap.size w w') => Lib.hid (elemGood_any a b c d xs ys w' ((h.below hb (Nat.le_refl _)).mono hb.size) ((h2.below hb (Nat.le_refl _)).mono hb.size))
  rw [ht] at hg
  clear h h2 ht
  go_enter Try.func66, Try.ntmps66
  go_wp2_with (first | (go_at_call 43; refine (hg _ (by (repeat' (first | exact Below.refl _ _ | refine below_drewN ?_ _ | refine Below.drew ?_ | refine Below.setCell ?_ (by first | omega | (simp <;> omega)) _ | refine Below.alloc ?_ (by first | omega | (simp <;> omega)) _)))).out.mono ?_; rintro e w1 ⟨rfl, hb⟩; have HB := Lib.hid hb; clear hb))
  go_ret
  exact ⟨rfl, Below.trans (by (repeat' (first | exact Below.refl _ _ | refine below_drewN ?_ _ | refine Below.drew ?_ | refine Below.setCell ?_ (by first | omega | (simp <;> omega)) _ | refine Below.alloc ?_ (by first | omega | (simp <;> omega)) _))) (HB.out.mono (by first | omega | (simp <;> omega)))⟩
set_option maxHeartbeats 1000000 in
theorem indexTen_any (q : Nat) (aA bA aB bB : Option Addr) (cA dA cB dB : Nat) (xsA ysA xsB ysB : List Int) (w : World)
    (hq : w.cell? ⟨q, 0, none⟩ = some (.slice aA xsA.length cA) ∧ w.cell? ⟨q, 1, none⟩ = some (.slice bA ysA.length dA) ∧ w.cell? ⟨q, 2, none⟩ = some (.slice aB xsB.length cB) ∧ w.cell? ⟨q, 3, none⟩ = some (.slice bB ysB.length dB)) (hql : q < w.heap.size)
    (hA : Ints .i64 w w.heap.size aA xsA) (hA2 : Ints .i64 w w.heap.size bA ysA) (hB : Ints .i64 w w.heap.size aB xsB) (hB2 : Ints .i64 w w.heap.size bB ysB) (tA : tenB xsA ysA = true) (tB : tenB xsB ysB = true) :
    Calls Try.prog 96 #[.slice (some ⟨q, 0, none⟩) 2 2, .func (.func 66) #[] #[]] w fun e w' => e = .returned (.int .i64 (-1)) ∧ Below w.heap.size w w' := by
  have hgA := fun w' (hb : Below w.heap.size w w') => Lib.hid (all1_any aA bA cA dA xsA ysA w' ((hA.below hb (Nat.le_refl _)).mono hb.size) ((hA2.below hb (Nat.le_refl _)).mono hb.size) tA)
  have hgB := fun w' (hb : Below w.heap.size w w') => Lib.hid (all1_any aB bB cB dB xsB ysB w' ((hB.below hb (Nat.le_refl _)).mono hb.size) ((hB2.below hb (Nat.le_refl _)).mono hb.size) tB)
  have HQ := Lib.hid hq
  clear hA hA2 hB hB2 tA tB hq
  go_enter Try.func96, Try.ntmps96
  go_wp2
  go_loopw [8] (fun i wr => ∃ k : Nat, k ≤ 2 ∧ i = .int .i64 k ∧ Below w.heap.size w wr) (fun i _ => 2 - (intOf i).toNat)
  case atStart => exact ⟨0, by omega, rfl, Below.refl _ _⟩
  case round =>
    obtain ⟨k, hk, rfl, hbel⟩ := hrel
    have HBL := Lib.hid hbel
    obtain ⟨q0, q1, q2, q3⟩ := HQ.out
    have c0 := (hbel.cell (p := ⟨q, 0, none⟩) hql).trans q0
    have c1 := (hbel.cell (p := ⟨q, 1, none⟩) hql).trans q1
    have c2 := (hbel.cell (p := ⟨q, 2, none⟩) hql).trans q2
    have c3 := (hbel.cell (p := ⟨q, 3, none⟩) hql).trans q3
    clear q0 q1 q2 q3 hbel
    match k, hk with
    | 0, _ =>
      go_wp2_with (first | (go_at_call 66; refine (hgA _ HBL.out).out.mono ?_; rintro e w1 ⟨rfl, hb⟩; have HB := Lib.hid hb; clear hb))
      go_roundw
      case rel => exact ⟨1, by omega, rfl, HBL.out.trans (HB.out.mono HBL.out.size)⟩
      case measure => simp [intOf]
    | 1, _ =>
      go_wp2_with (first | (go_at_call 66; refine (hgB _ HBL.out).out.mono ?_; rintro e w1 ⟨rfl, hb⟩; have HB := Lib.hid hb; clear hb))
      go_roundw
      case rel => exact ⟨2, by omega, rfl, HBL.out.trans (HB.out.mono HBL.out.size)⟩
      case measure => simp [intOf]
    | 2, _ =>
      go_wp2
      go_ret
      exact ⟨rfl, HBL.out⟩
theorem elemAll_any (q : Nat) (aA bA aB bB : Option Addr) (cA dA cB dB : Nat) (xsA ysA xsB ysB : List Int) (w : World)
    (hq : w.cell? ⟨q, 0, none⟩ = some (.slice aA xsA.length cA) ∧ w.cell? ⟨q, 1, none⟩ = some (.slice bA ysA.length dA) ∧ w.cell? ⟨q, 2, none⟩ = some (.slice aB xsB.length cB) ∧ w.cell? ⟨q, 3, none⟩ = some (.slice bB ysB.length dB)) (hql : q < w.heap.size)
    (hA : Ints .i64 w w.heap.size aA xsA) (hA2 : Ints .i64 w w.heap.size bA ysA) (hB : Ints .i64 w w.heap.size aB xsB) (hB2 : Ints .i64 w w.heap.size bB ysB) (tA : tenB xsA ysA = true) (tB : tenB xsB ysB = true) :
    Calls Try.prog 31 #[.slice (some ⟨q, 0, none⟩) 2 2] w fun e w' => e = .returned (.bool true) ∧ Below w.heap.size w w' := by
  have hi := Lib.hid (indexTen_any q aA bA aB bB cA dA cB dB xsA ysA xsB ysB w hq hql hA hA2 hB hB2 tA tB)
  have hc : Calls Try.prog 65 #[.slice (some ⟨q, 0, none⟩) 2 2, .func (.func 66) #[] #[]] w fun e w' => e = .returned (.bool false) ∧ Below w.heap.size w w' := by
    clear hq hA hA2 hB hB2 tA tB
    go_enter Try.func65, Try.ntmps65
    go_wp2_with (first | (go_at_call 96; refine hi.out.mono ?_; rintro e w1 ⟨rfl, hb⟩; have HB := Lib.hid hb; clear hb))
    go_ret
    exact ⟨rfl, HB.out⟩
  have HC := Lib.hid hc
  clear hc hi hq hA hA2 hB hB2 tA tB
  go_enter Try.func31, Try.ntmps31
  go_wp2_with (first | (go_at_call 65; refine HC.out.mono ?_; rintro e w1 ⟨rfl, hb⟩; have HB := Lib.hid hb; clear hb))
  go_ret
  exact ⟨rfl, HB.out⟩
theorem intsTake {k : IntKind} {w : World} {hi : Nat} {a : Option Addr} {xs : List Int} (h : Ints k w hi a xs) (j : Nat) : Ints k w hi a (xs.take j) :=
  ⟨by have := h.len; simp; omega, fun x hx => h.wf x (List.mem_of_mem_take hx), fun i hi' => by
    have hl : i < xs.length ∧ i < j := by simp at hi'; omega
    obtain ⟨b, off, ha, hlt, hc⟩ := h.cell i hl.1
    refine ⟨b, off, ha, hlt, ?_⟩
    rw [hc, List.getElem?_take, if_pos hl.2]⟩
/-- Do shapes go together? -/
def fitsB (xs ys : List Int) : Bool := decide (2 ≤ xs.length) && ((decide (ys.length = 2) || decide (ys.length = xs.length)) && (decide (xs[xs.length - 1]?.getD 0 = ys[ys.length - 2]?.getD 0) && (decide (ys.length ≠ xs.length) || decide (xs.take (xs.length - 2) = ys.take (ys.length - 2)))))
def outL (xs ys : List Int) : List Int := xs.take (xs.length - 1) ++ [ys[ys.length - 1]?.getD 0]
def outE (xs ys : List Int) : Int := if fitsB xs ys = true then (if goodB (outL xs ys) = true then 0 else 5) else 2
def outR (xs ys : List Int) : List Int := if outE xs ys = 0 then outL xs ys else []
set_option maxHeartbeats 1000000 in
set_option maxRecDepth 100000 in
theorem fits_any (a a2 : Option Addr) (c c2 hi : Nat) (xs ys : List Int) (w : World) (h : Ints .i64 w hi a xs) (h2 : Ints .i64 w hi a2 ys) (hx4 : xs.length ≤ 4) (hy4 : ys.length ≤ 4) (hc1 : xs.length ≤ c) (hc2 : ys.length ≤ c2) (hc3 : c ≤ 9223372036854775807) (hc4 : c2 ≤ 9223372036854775807) :
    Calls Try.prog 93 #[.slice a xs.length c, .slice a2 ys.length c2] w fun e w' => e = .returned (.bool (fitsB xs ys)) ∧ ∃ q, w' = w.drewN q := by
  have hm := h.len
  have hm2 := h2.len
  by_cases hn2 : xs.length < 2
  · have HE : Hid (fitsB xs ys = false) := Lib.hid (by unfold fitsB; rw [decide_eq_false (show ¬ 2 ≤ xs.length by omega)]; rfl)
    have i1 : (xs.length : Int) < 2 := by omega
    clear h h2 hn2
    go_enter Try.func93, Try.ntmps93
    go_upto_region 2 with fail
    go_quiet (fail)
    go_wp2
    go_ret
    exact ⟨ret_bool HE.out.symm, _, rfl⟩
  · have i1 : ¬ (xs.length : Int) < 2 := by omega
    by_cases hmm : ys.length = 2 ∨ ys.length = xs.length
    · have i2 : ¬ (ys.length : Int) < 2 := by omega
      obtain ⟨b, off, rfl, hlb, hcell⟩ := h.cell (xs.length - 1) (by omega)
      obtain ⟨b2, off2, rfl, hlb2, hcell2⟩ := h2.cell (ys.length - 2) (by omega)
      have ew1 : IntKind.i64.wrap ((xs.length : Int) - 1) = ((xs.length - 1 : Nat) : Int) := by rw [wrapI]; omega
      have ew2 : IntKind.i64.wrap ((ys.length : Int) - 2) = ((ys.length - 2 : Nat) : Int) := by rw [wrapI]; omega
      have ew3 : IntKind.i64.wrap ((xs.length : Int) - 2) = ((xs.length - 2 : Nat) : Int) := by rw [wrapI]; omega
      have eb1 : xs.length - 1 < xs.length := by omega
      have eb2 : ys.length - 2 < ys.length := by omega
      by_cases heq : xs[xs.length - 1]?.getD 0 = ys[ys.length - 2]?.getD 0
      · have e5 : (ys[ys.length - 2]?.getD 0 != ys[ys.length - 2]?.getD 0) = false := by simp
        rw [heq] at hcell
        have hl1 : (xs.take (xs.length - 2)).length = xs.length - 2 := by simp
        have hl2 : (ys.take (ys.length - 2)).length = ys.length - 2 := by simp
        have hq := fun w' (hb : Below hi w w') => Lib.hid (slicesEqual_any (some ⟨b, off, none⟩) (some ⟨b2, off2, none⟩) c c2 hi (xs.take (xs.length - 2)) (ys.take (ys.length - 2)) w' ((intsTake h _).below hb (Nat.le_refl _)) ((intsTake h2 _).below hb (Nat.le_refl _)))
        rw [hl1, hl2] at hq
        have HF : Hid (fitsB xs ys = (decide (ys.length ≠ xs.length) || decide (xs.take (xs.length - 2) = ys.take (ys.length - 2)))) := Lib.hid (by
          unfold fitsB
          rw [decide_eq_true (show 2 ≤ xs.length by omega), decide_eq_true heq]
          rcases hmm with h1 | h1
          · rw [decide_eq_true h1]; simp
          · rw [decide_eq_true h1]; simp)
        generalize ys[ys.length - 2]?.getD 0 = Y at hcell hcell2 e5
        generalize decide (xs.take (xs.length - 2) = ys.take (ys.length - 2)) = T at hq HF
        have ec1 : xs.length - 2 ≤ c := by omega
        have ec2 : ys.length - 2 ≤ c2 := by omega
        clear h h2 heq hl1 hl2
        by_cases h3 : ys.length = xs.length
        · have HE : Hid (fitsB xs ys = T) := Lib.hid (by rw [HF.out, decide_eq_false (show ¬ ys.length ≠ xs.length by omega), Bool.false_or])
          have e4 : ((ys.length : Int) != (xs.length : Int)) = false := by simp; omega
          by_cases h4 : ys.length = 2
          · have e3 : ((ys.length : Int) != 2) = false := by simp; omega
            clear h3 h4 hmm
            go_enter Try.func93, Try.ntmps93
            go_upto_region 2 with fail
            go_quiet (fail)
            go_upto_region 4 with fail
            obtain ⟨W1, hW1⟩ : ∃ W1 : World, w.drewN nq = W1 := ⟨_, rfl⟩
            have HBW : Below hi w W1 := by rw [← hW1]; exact below_drewN (Below.refl _ _) _
            rw [hW1]
            go_quiet (first | (go_at_call 48; exact Calls.quiet_of (hq _ (below_drewN HBW _)).out))
            go_wp2
            go_ret
            exact ⟨ret_bool HE.out.symm, _, by rw [← hW1]; first | rfl | exact World.drewN_drewN _ _ _⟩
          · have e3 : ((ys.length : Int) != 2) = true := by simp; omega
            clear h3 h4 hmm
            go_enter Try.func93, Try.ntmps93
            go_upto_region 2 with fail
            go_quiet (fail)
            go_upto_region 4 with fail
            obtain ⟨W1, hW1⟩ : ∃ W1 : World, w.drewN nq = W1 := ⟨_, rfl⟩
            have HBW : Below hi w W1 := by rw [← hW1]; exact below_drewN (Below.refl _ _) _
            rw [hW1]
            go_quiet (first | (go_at_call 48; exact Calls.quiet_of (hq _ (below_drewN HBW _)).out))
            go_wp2
            go_ret
            exact ⟨ret_bool HE.out.symm, _, by rw [← hW1]; first | rfl | exact World.drewN_drewN _ _ _⟩
        · have HE : Hid (fitsB xs ys = true) := Lib.hid (by rw [HF.out, decide_eq_true (show ys.length ≠ xs.length from h3), Bool.true_or])
          have e4 : ((ys.length : Int) != (xs.length : Int)) = true := by simp; omega
          have h4 : ys.length = 2 := by omega
          have e3 : ((ys.length : Int) != 2) = false := by simp; omega
          clear h3 h4 hmm
          go_enter Try.func93, Try.ntmps93
          go_upto_region 2 with fail
          go_quiet (fail)
          go_upto_region 4 with fail
          obtain ⟨W1, hW1⟩ : ∃ W1 : World, w.drewN nq = W1 := ⟨_, rfl⟩
          have HBW : Below hi w W1 := by rw [← hW1]; exact below_drewN (Below.refl _ _) _
          rw [hW1]
          go_quiet (fail)
          go_wp2
          go_ret
          exact ⟨ret_bool HE.out.symm, _, by rw [← hW1]; first | rfl | exact World.drewN_drewN _ _ _⟩
      · have HE : Hid (fitsB xs ys = false) := Lib.hid (by unfold fitsB; rw [decide_eq_false heq, Bool.false_and, Bool.and_false, Bool.and_false])
        have e5 : (xs[xs.length - 1]?.getD 0 != ys[ys.length - 2]?.getD 0) = true := by simp; exact heq
        generalize xs[xs.length - 1]?.getD 0 = X at hcell e5
        generalize ys[ys.length - 2]?.getD 0 = Y at hcell2 e5
        clear h h2 heq
        rcases hmm with h1 | h1
        · by_cases h3 : ys.length = xs.length
          · have e3 : ((ys.length : Int) != 2) = false := by simp; omega
            have e4 : ((ys.length : Int) != (xs.length : Int)) = false := by simp; omega
            clear h1 h3
            go_enter Try.func93, Try.ntmps93
            go_upto_region 2 with fail
            go_quiet (fail)
            go_wp2
            go_ret
            exact ⟨ret_bool HE.out.symm, _, rfl⟩
          · have e3 : ((ys.length : Int) != 2) = false := by simp; omega
            have e4 : ((ys.length : Int) != (xs.length : Int)) = true := by simp; omega
            clear h1 h3
            go_enter Try.func93, Try.ntmps93
            go_upto_region 2 with fail
            go_quiet (fail)
            go_wp2
            go_ret
            exact ⟨ret_bool HE.out.symm, _, rfl⟩
        · by_cases h3 : ys.length = 2
          · have e3 : ((ys.length : Int) != 2) = false := by simp; omega
            have e4 : ((ys.length : Int) != (xs.length : Int)) = false := by simp; omega
            clear h1 h3
            go_enter Try.func93, Try.ntmps93
            go_upto_region 2 with fail
            go_quiet (fail)
            go_wp2
            go_ret
            exact ⟨ret_bool HE.out.symm, _, rfl⟩
          · have e3 : ((ys.length : Int) != 2) = true := by simp; omega
            have e4 : ((ys.length : Int) != (xs.length : Int)) = false := by simp; omega
            clear h1 h3
            go_enter Try.func93, Try.ntmps93
            go_upto_region 2 with fail
            go_quiet (fail)
            go_wp2
            go_ret
            exact ⟨ret_bool HE.out.symm, _, rfl⟩
    · have HE : Hid (fitsB xs ys = false) := Lib.hid (by unfold fitsB; rw [decide_eq_false (show ¬ ys.length = 2 by omega), decide_eq_false (show ¬ ys.length = xs.length by omega), Bool.or_self, Bool.false_and, Bool.and_false])
      have e3 : ((ys.length : Int) != 2) = true := by simp; omega
      have e4 : ((ys.length : Int) != (xs.length : Int)) = true := by simp; omega
      clear h h2
      go_enter Try.func93, Try.ntmps93
      go_upto_region 2 with fail
      go_quiet (fail)
      go_wp2
      go_ret
      exact ⟨ret_bool HE.out.symm, _, rfl⟩
/-- append of one number to a row of one's own, as one step of a region that draws. -/
theorem step_append1 {P : Program} {ops : Array Oper} {o : Oper} {a : Act} {w : World} {K : Act → World → Prop} {Q : Exit → Act → World → Prop} {E' : Prop} (T E : TypeId) (k : IntKind)
    (hinf : (P.info? E).map (fun i => (i.zero, i.size, i.bytes)) = some (some (.int k 0), 1, 8)) (hu : P.underlying T = some (.slice E))
    (base : Nat) (v : Value) (n : Nat) (xs : List Int) (y : Int) (cap : Nat) (ad : Addr) (s x : Operand) (hg : o.guard = none) (ho : o.op = .call { callee := .builtin .append, args := #[s, x], argTypes := #[T, T] })
    (hs : a.eval s = v) (hown : w.ownsRow base E 1 v n (xs.map (Value.int k))) (hx : a.eval x = .slice (some ad) 1 cap) (hc : w.cell? ad = some (.int k y)) (hn : n ≤ 17592186044415) (hb : base ≤ w.heap.size)
    (hK : ∀ v' w', w'.ownsRow base E 1 v' (n + 1) ((xs ++ [y]).map (Value.int k)) → (∀ B W0, B ≤ base → Below B W0 w → Below B W0 w') → K (a.put o.dst v') w') :
    if Region.wanted o (yielded ops a.tmps) = true then Oper.wp P o a w K Q else E' := by
  have hw : Region.wanted o (yielded ops a.tmps) = true := by simp [Region.wanted, hg]
  rw [if_pos hw]
  obtain ⟨i, hi, hz0, hz1, hz2⟩ := info_parts hinf
  refine wp_append_own w s x T ho base E i (.int k 0) 1 8 hu hi hz0 hz1 hz2 rfl (by decide) v n _ hs hown ad 1 cap [.int k y] hx rfl (fun j u hj => ?_) (by simp [Value.oneCell']) (by unfold maxLen; omega) (by omega) hb ?_
  · cases j with
    | zero =>
      simp at hj
      subst hj
      have : ad.add 0 = ad := by cases ad; rfl
      rw [this]
      exact hc
    | succ j => simp at hj
  · intro v' w' hown' hgrow _
    refine hK v' w' (by simpa using hown') (fun B W0 hB hbel => ?_)
    have hlt := hown.lt
    refine hbel.grown hgrow (by have := hbel.size; omega) (fun j hj => ?_)
    have := hlt j hj
    omega
/-- What Out hands back. -/
def RetOut (w : World) (xs : List Int) (z : Int) (e : Ending) (w' : World) : Prop :=
  ∃ v, e = .returned (.tuple #[v, .int .i64 z]) ∧ w'.ownsRow w.heap.size 3 1 v xs.length (xs.map (Value.int .i64)) ∧ Below w.heap.size w w'
set_option maxHeartbeats 2000000 in
set_option maxRecDepth 100000 in
theorem out_any (a a2 : Option Addr) (c c2 : Nat) (xs ys : List Int) (w : World) (h : Ints .i64 w w.heap.size a xs) (h2 : Ints .i64 w w.heap.size a2 ys) (hx4 : xs.length ≤ 4) (hy4 : ys.length ≤ 4) (hc1 : xs.length ≤ c) (hc2 : ys.length ≤ c2) (hc3 : c ≤ 9223372036854775807) (hc4 : c2 ≤ 9223372036854775807) :
    Calls Try.prog 60 #[.slice a xs.length c, .slice a2 ys.length c2] w (RetOut w (outR xs ys) (outE xs ys)) := by
  have hf := Lib.hid (fits_any a a2 c c2 w.heap.size xs ys w h h2 hx4 hy4 hc1 hc2 hc3 hc4)
  have hwf := h.wf
  have hwf2 := h2.wf
  cases hfit : fitsB xs ys with
  | false =>
    have e1 : outE xs ys = 2 := by unfold outE; rw [hfit]; rfl
    have e2 : outR xs ys = [] := by unfold outR; rw [e1]; rfl
    rw [e1, e2]
    rw [hfit] at hf
    clear h h2 hfit e1 e2 hwf hwf2
    go_enter Try.func60, Try.ntmps60
    go_wp2_with (first | (go_at_call 93; refine hf.out.mono ?_; rintro e w' ⟨rfl, q, rfl⟩))
    exact bodyPost_ret (by rw [results_tmp2 rfl]; go_simp) rfl ⟨_, rfl, World.ownsRow_nil _ _ _ _, (by (repeat' (first | exact Below.refl _ _ | refine below_drewN ?_ _ | refine Below.drew ?_ | refine Below.setCell ?_ (by first | omega | (simp <;> omega)) _ | refine Below.alloc ?_ (by first | omega | (simp <;> omega)) _)))⟩
  | true =>
    have hn : 2 ≤ xs.length ∧ 2 ≤ ys.length := by
      unfold fitsB at hfit
      simp at hfit
      omega
    rw [hfit] at hf
    obtain ⟨b2, off2, e2, hlb2, hcell2⟩ := h2.cell (ys.length - 1) (by omega)
    have hY : outL xs ys = xs.take (xs.length - 1) ++ [ys[ys.length - 1]?.getD 0] := rfl
    have hYw : (Lit.int .i64 (ys[ys.length - 1]?.getD 0)).wf = true := by rw [List.getElem?_eq_getElem (show ys.length - 1 < ys.length by omega)]; exact hwf2 _ (List.getElem_mem _)
    have hwfo : ∀ x ∈ outL xs ys, (Lit.int .i64 x).wf = true := by
      intro x hx
      rw [hY] at hx
      rcases List.mem_append.1 hx with h | h
      · exact hwf x (List.mem_of_mem_take h)
      · simp at h; rw [h]; exact hYw
    have hoE : outE xs ys = if goodB (outL xs ys) = true then 0 else 5 := by unfold outE; rw [hfit]; rfl
    have hl1 : (xs.take (xs.length - 1)).length = xs.length - 1 := by simp
    have hlo : (outL xs ys).length = xs.length - 1 + 1 := by rw [hY, List.length_append, hl1]; rfl
    have hcl0 := fun w' (hb : Below w.heap.size w w') => Lib.hid (clone_any a c (xs.take (xs.length - 1)) w' (((intsTake h _).below hb (Nat.le_refl _)).mono hb.size) (by omega))
    rw [hl1] at hcl0
    subst e2
    go_enter Try.func60, Try.ntmps60
    go_upto_region 3 with (first | (go_at_call 93; refine hf.out.mono ?_; rintro e w' ⟨rfl, q, rfl⟩))
    obtain ⟨W, hW⟩ : ∃ W : World, w.drewN q = W := ⟨_, rfl⟩
    have hBW : Below w.heap.size w W := by rw [← hW]; exact below_drewN (Below.refl _ _) _
    have hWs : W.heap.size = w.heap.size := by rw [← hW]; rfl
    have hcy := (hBW.cell (p := ⟨b2, off2 + (ys.length - 1), none⟩) hlb2).trans hcell2
    have hcl := fun w' (hb : Below W.heap.size W w') => hcl0 w' (hBW.trans (hb.mono (by omega)))
    generalize ys[ys.length - 1]?.getD 0 = Y at hY hcy hYw
    rw [hW]
    have ew1 : IntKind.i64.wrap ((xs.length : Int) - 1) = ((xs.length - 1 : Nat) : Int) := by rw [wrapI]; omega
    have ew2 : IntKind.i64.wrap ((ys.length : Int) - 1) = ((ys.length - 1 : Nat) : Int) := by rw [wrapI]; omega
    have ec1 : xs.length - 1 ≤ c := by omega
    have eb2 : ys.length - 1 < ys.length := by omega
    have hlq : b2 < W.heap.size := by omega
    have HOE := Lib.hid hoE
    have HLO := Lib.hid hlo
    have HYY := Lib.hid hY
    have HBW := Lib.hid hBW
    have HL1 := Lib.hid hl1
    clear h h2 hfit hf hcl0 hcell2 hW hoE hlo hY hBW hl1
    go_region_law (first | (go_simp; go_at_call 69; refine (hcl _ (by (repeat' (first | exact Below.refl _ _ | refine below_drewN ?_ _ | refine Below.drew ?_ | refine Below.setCell ?_ (by first | omega | (simp <;> omega)) _ | refine Below.alloc ?_ (by first | omega | (simp <;> omega)) _)))).out.mono ?_; rintro e w1 ⟨v, rfl, hown, hb⟩; rw [HL1.out] at hown; have hs1 := hb.size; (try simp at hs1); have zc := fun hq => hb.cell (p := ⟨W.heap.size, 0, none⟩) hq; (try simp at zc); have hWw : Below W.heap.size W w1 := Below.trans (by (repeat' (first | exact Below.refl _ _ | refine below_drewN ?_ _ | refine Below.drew ?_ | refine Below.setCell ?_ (by first | omega | (simp <;> omega)) _ | refine Below.alloc ?_ (by first | omega | (simp <;> omega)) _))) (hb.mono (by first | omega | (simp <;> omega))); have hcy1 := (hWw.cell (p := ⟨b2, off2 + (ys.length - 1), none⟩) hlq).trans hcy; have HBW1 := Lib.hid hWw; clear hWw; have HB1 := Lib.hid hb; have HO1 := Lib.hid hown; obtain ⟨a1, c1, rfl, _⟩ := own_shape hown; clear hb hown) | (refine step_append1 23 3 .i64 infoInt Try.underlying23 W.heap.size (.slice a1 (xs.length - 1) c1) (xs.length - 1) (xs.take (xs.length - 1)) Y 1 ⟨w1.heap.size, 0, none⟩ (.tmp 16) (.tmp 23) rfl rfl ?_ ?_ ?_ ?_ ?_ ?_ ?_; (focus (simp [Act.eval, Act.put]; done)); (focus (refine (own_mono (base' := W.heap.size) HO1.out ?_).alloc _; (first | omega | (simp <;> omega)))); (focus (simp [Act.eval, Act.put]; done)); (focus exact cell_one_new _ _ _ 0 _ rfl); (focus omega); (focus (first | omega | (simp <;> omega))); (intro v' w2 hown2 hbel2; have HO2 := Lib.hid hown2; have HB2 := Lib.hid (hbel2 W.heap.size W (Nat.le_refl _) (Below.alloc HBW1.out HBW1.out.size _)); obtain ⟨a3, c3, rfl, _⟩ := own_shape hown2; clear hown2 hbel2)) | (refine step_append1 23 3 .i64 infoInt Try.underlying23 W.heap.size (.slice a1 (xs.length - 1) c1) (xs.length - 1) (xs.take (xs.length - 1)) Y 1 ⟨W.heap.size, 0, none⟩ (.tmp 16) (.tmp 23) rfl rfl ?_ ?_ ?_ ?_ ?_ ?_ ?_; (focus (simp [Act.eval, Act.put]; done)); (focus (refine own_mono HO1.out ?_; (first | omega | (simp <;> omega)))); (focus (simp [Act.eval, Act.put]; done)); (focus (first | assumption | exact zc)); (focus omega); (focus (first | omega | (simp <;> omega))); (intro v' w2 hown2 hbel2; have HO2 := Lib.hid hown2; have HB2 := Lib.hid (hbel2 W.heap.size W (Nat.le_refl _) (HBW1.out)); obtain ⟨a3, c3, rfl, _⟩ := own_shape hown2; clear hown2 hbel2)) | fail)
    all_goals
      have hO := HO2.out
      rw [← HYY.out, ← HLO.out] at hO
      obtain ⟨a4, c4, he, hI⟩ := own_ints hO hwfo
      have ha4 : a3 = a4 := by injection he
      have hg := Lib.hid (good_any a3 c3 w2.heap.size (outL xs ys) w2 (by rw [ha4]; exact hI))
      rw [HLO.out] at hg
      have HOW := Lib.hid hO
      have HBF := Lib.hid (HBW.out.trans (HB2.out.mono (by omega)))
      clear hO he hI ha4 HO2 HB2 HB1 HO1 HBW1
      cases hgo : goodB (outL xs ys) with
      | false =>
        have HE : Hid (outE xs ys = 5 ∧ outR xs ys = []) := Lib.hid (by have := HOE.out; rw [hgo] at this; refine ⟨this, ?_⟩; unfold outR; rw [this]; rfl)
        rw [hgo] at hg
        clear hgo
        go_wp2_with (first | (go_at_call 47; refine hg.out.mono ?_; rintro e w' ⟨rfl, rfl⟩))
        refine bodyPost_ret (v := .tuple #[.slice none 0 0, .int .i64 5]) (by rw [results_tmp2 rfl]; go_simp) rfl ?_
        show RetOut w (outR xs ys) (outE xs ys) _ _
        rw [HE.out.1, HE.out.2]
        exact ⟨_, rfl, World.ownsRow_nil _ _ _ _, HBF.out⟩
      | true =>
        have HE : Hid (outE xs ys = 0 ∧ outR xs ys = outL xs ys) := Lib.hid (by have := HOE.out; rw [hgo] at this; refine ⟨this, ?_⟩; unfold outR; rw [this]; rfl)
        rw [hgo] at hg
        clear hgo
        go_wp2_with (first | (go_at_call 47; refine hg.out.mono ?_; rintro e w' ⟨rfl, rfl⟩))
        refine bodyPost_ret (v := .tuple #[.slice a3 (xs.length - 1 + 1) c3, .int .i64 0]) (by rw [results_tmp2 rfl]; go_simp) rfl ?_
        show RetOut w (outR xs ys) (outE xs ys) _ _
        rw [HE.out.1, HE.out.2]
        refine ⟨_, rfl, ?_, HBF.out⟩
        have hO := HOW.out
        rw [hWs] at hO
        rw [← HLO.out]
        exact hO
theorem wrap_nat' (q : Nat) (h : q ≤ 9223372036854775807) : RowKit.wrap64 (q : Int) = q := by unfold RowKit.wrap64; omega
/-- The sum of n products: from place o of xs on, one by one; from place p of ys on, st apart. -/
def sumAt (xs ys : List Int) (o p st : Nat) : Nat → Int
  | 0 => 0
  | j + 1 => sumAt xs ys o p st j + xs[o + j]?.getD 0 * ys[p + j * st]?.getD 0
theorem dotK_sumAt (xs ys X Y : List Int) (o p st n : Nat) (hX : ∀ j, j < n → X[j]?.getD 0 = xs[o + j]?.getD 0) (hY : ∀ j, j < n → Y[j * st]?.getD 0 = ys[p + j * st]?.getD 0) :
    ∀ k, k ≤ n → dotK X Y st k = sumAt xs ys o p st k
  | 0, _ => rfl
  | k + 1, h => by
    rw [dotK, sumAt, dotK_sumAt xs ys X Y o p st n hX hY k (by omega), hX k (by omega), hY k (by omega)]
/-- Word j of a product, before it is taken as a word. -/
def mulG (xs ys : List Int) (R I C : Nat) (bt : Bool) (f j : Nat) : Int :=
  shI (sumAt xs ys (j / C * I) ((if bt = true then j / (R * C) else 0) * (I * C) + j % C) C I) f
theorem take_drop_get (l : List Int) (s n i : Nat) (h : i < n) : ((l.drop s).take n)[i]?.getD 0 = l[s + i]?.getD 0 := by
  rw [List.getElem?_take, if_pos h, List.getElem?_drop]
/-- The shapes of a product, by numbers. -/
structure MulShape (xsA ysA xsB ysB : List Int) (P R I C : Nat) : Prop where
  p1 : 1 ≤ P
  r1 : 1 ≤ R
  i1 : 1 ≤ I
  c1 : 1 ≤ C
  lenA : ysA.length = P * (R * I)
  lenT : (prodI (outL xsA xsB)).toNat = P * (R * C)
  lenB : ysB.length = if decide (xsB.length = xsA.length) = true then P * (I * C) else I * C
  bA : P * (R * I) ≤ 65536
  bT : P * (R * C) ≤ 65536
  bB : ysB.length ≤ 65536
theorem last2 (xs : List Int) (h : 2 ≤ xs.length) : xs = xs.take (xs.length - 2) ++ [xs[xs.length - 2], xs[xs.length - 1]] := by
  have h1 := drop_cons xs (xs.length - 2) (by omega)
  have e : xs.length - 2 + 1 = xs.length - 1 := by omega
  rw [e, drop_cons xs (xs.length - 1) (by omega)] at h1
  rw [List.drop_eq_nil_of_le (show xs.length ≤ xs.length - 1 + 1 by omega)] at h1
  conv => lhs; rw [← List.take_append_drop (xs.length - 2) xs, h1]
theorem mulShape_of {xsA ysA xsB ysB : List Int} (tA : tenB xsA ysA = true) (tB : tenB xsB ysB = true) (hz : outE xsA xsB = 0) (h2 : 2 ≤ xsA.length) (h2' : 2 ≤ xsB.length) {R I C : Nat}
    (hR : xsA[xsA.length - 2] = (R : Int)) (hI : xsA[xsA.length - 1] = (I : Int)) (hC : xsB[xsB.length - 1] = (C : Int)) : ∃ P, MulShape xsA ysA xsB ysB P R I C := by
  obtain ⟨gA, lA, _⟩ := tenB_iff.1 tA
  obtain ⟨gB, lB, _⟩ := tenB_iff.1 tB
  have hfit : fitsB xsA xsB = true := by
    cases h : fitsB xsA xsB with
    | true => rfl
    | false => unfold outE at hz; rw [h] at hz; simp at hz
  have hgS : goodB (outL xsA xsB) = true := by
    unfold outE at hz
    rw [hfit, if_pos rfl] at hz
    cases h : goodB (outL xsA xsB) with
    | true => rfl
    | false => rw [h] at hz; simp at hz
  have dA := goodB_dims gA
  have dB := goodB_dims gB
  have pA := goodB_prod gA
  have pB := goodB_prod gB
  have pS := goodB_prod hgS
  have hdR := dA.at (show xsA.length - 2 < xsA.length by omega)
  have hdI := dA.at (show xsA.length - 1 < xsA.length by omega)
  have hdC := dB.at (show xsB.length - 1 < xsB.length by omega)
  have hP := (dA.take (xsA.length - 2)).pos
  have eI : xsB[xsB.length - 2] = (I : Int) := by
    unfold fitsB at hfit
    simp only [Bool.and_eq_true, decide_eq_true_eq] at hfit
    have h := hfit.2.2.1
    rw [List.getElem?_eq_getElem (show xsA.length - 1 < xsA.length by omega), List.getElem?_eq_getElem (show xsB.length - 2 < xsB.length by omega)] at h
    simp only [Option.getD_some] at h
    rw [← h, hI]
  have hl : xsB.length = 2 ∨ xsB.length = xsA.length := by
    unfold fitsB at hfit
    simp only [Bool.and_eq_true, Bool.or_eq_true, decide_eq_true_eq] at hfit
    exact hfit.2.1
  have ht : xsB.length ≠ xsA.length ∨ xsA.take (xsA.length - 2) = xsB.take (xsB.length - 2) := by
    unfold fitsB at hfit
    simp only [Bool.and_eq_true, Bool.or_eq_true, decide_eq_true_eq] at hfit
    exact hfit.2.2.2
  have e1 : prodI xsA = prodI (xsA.take (xsA.length - 2)) * ((R : Int) * I) := by
    conv => lhs; rw [last2 xsA h2, prodI_append, hR, hI]
    simp [prodI]
  have e2 : prodI xsB = prodI (xsB.take (xsB.length - 2)) * ((I : Int) * C) := by
    conv => lhs; rw [last2 xsB h2', prodI_append, eI, hC]
    simp [prodI]
  have e3 : prodI (outL xsA xsB) = prodI (xsA.take (xsA.length - 2)) * ((R : Int) * C) := by
    unfold outL
    have h3 : xsA.take (xsA.length - 1) = xsA.take (xsA.length - 2) ++ [xsA[xsA.length - 2]] := by
      have := take_snoc xsA (xsA.length - 2) (by omega)
      rwa [show xsA.length - 2 + 1 = xsA.length - 1 by omega] at this
    rw [h3, prodI_append, prodI_append, hR, List.getElem?_eq_getElem (show xsB.length - 1 < xsB.length by omega)]
    simp [prodI, hC, Int.mul_assoc]
  obtain ⟨P, hPP⟩ : ∃ P : Nat, prodI (xsA.take (xsA.length - 2)) = (P : Int) := ⟨(prodI (xsA.take (xsA.length - 2))).toNat, by omega⟩
  rw [hPP] at e1 e3 hP
  have c1 : (P : Int) * ((R : Int) * I) = ((P * (R * I) : Nat) : Int) := by simp
  have c3 : (P : Int) * ((R : Int) * C) = ((P * (R * C) : Nat) : Int) := by simp
  rw [c1] at e1
  rw [c3] at e3
  refine ⟨P, by omega, by omega, by omega, by omega, by omega, by omega, ?_, by omega, by omega, by omega⟩
  by_cases hq : xsB.length = xsA.length
  · rw [decide_eq_true hq, if_pos rfl]
    rcases ht with h | h
    · exact absurd hq h
    · rw [← h, hPP] at e2
      have c2 : (P : Int) * ((I : Int) * C) = ((P * (I * C) : Nat) : Int) := by simp
      rw [c2] at e2
      omega
  · rw [decide_eq_false hq, if_neg (by decide)]
    have h4 : xsB.length = 2 := by omega
    rw [h4] at e2
    have c2 : prodI (xsB.take (2 - 2)) * ((I : Int) * C) = ((I * C : Nat) : Int) := by simp [prodI]
    rw [c2] at e2
    omega
/-- The first a words of G, then noughts. -/
def partL (G : Nat → Int) (N a : Nat) : List Int := (List.range N).map fun j => if j < a then G j else 0
theorem partL_zero (G : Nat → Int) (N : Nat) : partL G N 0 = List.replicate N 0 := by
  apply List.ext_getElem
  · simp [partL]
  · intro i h1 h2
    simp [partL]
theorem partL_full (G : Nat → Int) (N : Nat) : partL G N N = (List.range N).map G := by
  apply List.ext_getElem
  · simp [partL]
  · intro i h1 h2
    simp [partL] at h1 ⊢
    omega
theorem partL_set (G : Nat → Int) (N a : Nat) : (partL G N a).set a (G a) = partL G N (a + 1) := by
  apply List.ext_getElem
  · simp [partL]
  · intro i h1 h2
    rw [List.getElem_set]
    simp [partL] at h1 ⊢
    by_cases h : a = i
    · subst h
      simp
    · rw [if_neg h]
      by_cases h3 : i < a
      · rw [if_pos h3, if_pos (by omega)]
      · rw [if_neg h3, if_neg (by omega)]
/-- Places, in a block's row and column. -/
theorem place_div (k R C i : Nat) (hC : 1 ≤ C) (h : i < R * C) (hR : 1 ≤ R) :
    (k * (R * C) + i) / C = k * R + i / C ∧ (k * (R * C) + i) / (R * C) = k ∧ (k * (R * C) + i) % C = i % C := by
  have e : k * (R * C) + i = i + C * (k * R) := by rw [Nat.mul_comm C, Nat.mul_assoc]; omega
  refine ⟨?_, ?_, ?_⟩
  · rw [e, Nat.add_mul_div_left _ _ (by omega)]; omega
  · rw [Nat.add_comm, Nat.mul_comm k, Nat.add_mul_div_left _ _ (by omega), Nat.div_eq_of_lt h]; omega
  · rw [e, Nat.add_mul_mod_self_left]
/-- Numbers of block k of a product. -/
theorem mul_block {xsA ysA xsB ysB : List Int} {P R I C k : Nat} (h : MulShape xsA ysA xsB ysB P R I C) (hk : k < P) :
    ∃ kR kRI k1R k1RI RI : Nat, Hid (kRI = k * (R * I) ∧ RI = R * I) ∧ k1RI = kRI + RI ∧ 1 ≤ RI ∧ RI ≤ 65536 ∧ k1RI ≤ ysA.length ∧
      RowKit.wrap64 ((k : Int) * R) = (kR : Int) ∧ RowKit.wrap64 ((kR : Int) * I) = (kRI : Int) ∧ RowKit.wrap64 (((k : Int) + 1) * R) = (k1R : Int) ∧ RowKit.wrap64 ((k1R : Int) * I) = (k1RI : Int) := by
  obtain ⟨hP, hR, hI, hC, lA, _, _, bA, _, _⟩ := h
  have e1 : (k + 1) * (R * I) ≤ P * (R * I) := Nat.mul_le_mul (by omega) (Nat.le_refl _)
  have e2 : (k + 1) * (R * I) = k * (R * I) + R * I := by rw [Nat.add_mul, Nat.one_mul]
  have e3 : 1 ≤ R * I := Nat.mul_le_mul hR hI
  have e4 : (k + 1) * R ≤ (k + 1) * (R * I) := by rw [← Nat.mul_assoc]; exact Nat.le_mul_of_pos_right _ hI
  have e5 : k * R ≤ (k + 1) * R := Nat.mul_le_mul (by omega) (Nat.le_refl _)
  have a1 : (k : Int) * R = ((k * R : Nat) : Int) := by simp
  have a2 : ((k * R : Nat) : Int) * I = ((k * (R * I) : Nat) : Int) := by simp [Int.mul_assoc]
  have a3 : ((k : Int) + 1) * R = (((k + 1) * R : Nat) : Int) := by simp
  have a4 : (((k + 1) * R : Nat) : Int) * I = (((k + 1) * (R * I) : Nat) : Int) := by simp [Int.mul_assoc]
  refine ⟨k * R, k * (R * I), (k + 1) * R, (k + 1) * (R * I), R * I, Lib.hid ⟨rfl, rfl⟩, e2, e3, ?_, by omega, ?_, ?_, ?_, ?_⟩
  · generalize P * (R * I) = q1 at *; generalize k * (R * I) = q2 at *; generalize (k + 1) * (R * I) = q3 at *; omega
  · rw [a1]; refine wrap_nat' _ ?_; generalize P * (R * I) = q1 at *; generalize (k + 1) * (R * I) = q3 at *; generalize (k + 1) * R = q4 at *; generalize k * R = q5 at *; omega
  · rw [a2]; refine wrap_nat' _ ?_; generalize P * (R * I) = q1 at *; generalize k * (R * I) = q2 at *; generalize (k + 1) * (R * I) = q3 at *; omega
  · rw [a3]; refine wrap_nat' _ ?_; generalize P * (R * I) = q1 at *; generalize (k + 1) * (R * I) = q3 at *; generalize (k + 1) * R = q4 at *; omega
  · rw [a4]; refine wrap_nat' _ ?_; generalize P * (R * I) = q1 at *; generalize (k + 1) * (R * I) = q3 at *; omega
theorem mul_rc {xsA ysA xsB ysB : List Int} {P R I C : Nat} (h : MulShape xsA ysA xsB ysB P R I C) : ∃ RC : Nat, Hid (RC = R * C) ∧ 1 ≤ RC ∧ RC ≤ 65536 ∧ RowKit.wrap64 ((R : Int) * C) = (RC : Int) := by
  obtain ⟨hP, hR, hI, hC, _, _, _, _, bT, _⟩ := h
  have e1 : R * C ≤ P * (R * C) := Nat.le_mul_of_pos_left _ hP
  have a1 : (R : Int) * C = ((R * C : Nat) : Int) := by simp
  refine ⟨R * C, Lib.hid rfl, Nat.mul_le_mul hR hC, Nat.le_trans e1 bT, ?_⟩
  rw [a1]; refine wrap_nat' _ (Nat.le_trans (Nat.le_trans e1 bT) (by decide))
theorem mul_blockB {xsA ysA xsB ysB : List Int} {P R I C k : Nat} (h : MulShape xsA ysA xsB ysB P R I C) (hk : k < P) (hb : xsB.length = xsA.length) :
    ∃ kI kIC k1I k1IC IC : Nat, Hid (kIC = k * (I * C) ∧ IC = I * C) ∧ k1IC = kIC + IC ∧ 1 ≤ IC ∧ IC ≤ 65536 ∧ k1IC ≤ ysB.length ∧
      RowKit.wrap64 ((k : Int) * I) = (kI : Int) ∧ RowKit.wrap64 ((kI : Int) * C) = (kIC : Int) ∧ RowKit.wrap64 (((k : Int) + 1) * I) = (k1I : Int) ∧ RowKit.wrap64 ((k1I : Int) * C) = (k1IC : Int) := by
  obtain ⟨hP, hR, hI, hC, _, _, lB, _, _, bB⟩ := h
  rw [decide_eq_true hb, if_pos rfl] at lB
  have bB' : P * (I * C) ≤ 65536 := by omega
  have e1 : (k + 1) * (I * C) ≤ P * (I * C) := Nat.mul_le_mul (by omega) (Nat.le_refl _)
  have e2 : (k + 1) * (I * C) = k * (I * C) + I * C := by rw [Nat.add_mul, Nat.one_mul]
  have e3 : 1 ≤ I * C := Nat.mul_le_mul hI hC
  have e4 : (k + 1) * I ≤ (k + 1) * (I * C) := by rw [← Nat.mul_assoc]; exact Nat.le_mul_of_pos_right _ hC
  have e5 : k * I ≤ (k + 1) * I := Nat.mul_le_mul (by omega) (Nat.le_refl _)
  have a1 : (k : Int) * I = ((k * I : Nat) : Int) := by simp
  have a2 : ((k * I : Nat) : Int) * C = ((k * (I * C) : Nat) : Int) := by simp [Int.mul_assoc]
  have a3 : ((k : Int) + 1) * I = (((k + 1) * I : Nat) : Int) := by simp
  have a4 : (((k + 1) * I : Nat) : Int) * C = (((k + 1) * (I * C) : Nat) : Int) := by simp [Int.mul_assoc]
  refine ⟨k * I, k * (I * C), (k + 1) * I, (k + 1) * (I * C), I * C, Lib.hid ⟨rfl, rfl⟩, e2, e3, ?_, by omega, ?_, ?_, ?_, ?_⟩
  · generalize P * (I * C) = q1 at *; generalize k * (I * C) = q2 at *; generalize (k + 1) * (I * C) = q3 at *; omega
  · rw [a1]; refine wrap_nat' _ ?_; generalize P * (I * C) = q1 at *; generalize (k + 1) * (I * C) = q3 at *; generalize (k + 1) * I = q4 at *; generalize k * I = q5 at *; omega
  · rw [a2]; refine wrap_nat' _ ?_; generalize P * (I * C) = q1 at *; generalize k * (I * C) = q2 at *; generalize (k + 1) * (I * C) = q3 at *; omega
  · rw [a3]; refine wrap_nat' _ ?_; generalize P * (I * C) = q1 at *; generalize (k + 1) * (I * C) = q3 at *; generalize (k + 1) * I = q4 at *; omega
  · rw [a4]; refine wrap_nat' _ ?_; generalize P * (I * C) = q1 at *; generalize (k + 1) * (I * C) = q3 at *; omega
/-- Numbers of place i of a block. -/
theorem mul_cell {xsA ysA xsB ysB : List Int} {P R I C i : Nat} (h : MulShape xsA ysA xsB ysB P R I C) (hi : i < R * C) :
    ∃ q r qI IC : Nat, Hid (q = i / C ∧ r = i % C ∧ qI = i / C * I ∧ IC = I * C) ∧ qI + I ≤ R * I ∧ r < IC ∧ IC ≤ ysB.length ∧ (∀ j, j < I → j * C < IC - r) ∧ I ≤ 65536 ∧ 1 ≤ I ∧
      Int.tdiv (i : Int) (C : Int) = (q : Int) ∧ (i : Int) / (C : Int) = (q : Int) ∧ IntKind.i64.wrap (q : Int) = (q : Int) ∧ IntKind.i64.wrap ((q : Int) * I) = (qI : Int) ∧ Int.tmod (i : Int) (C : Int) = (r : Int) ∧ (i : Int) % (C : Int) = (r : Int) := by
  obtain ⟨hP, hR, hI, hC, lA, lT, lB, bA, bT, bB⟩ := h
  have hq : i / C < R := Nat.div_lt_of_lt_mul (by rw [Nat.mul_comm]; exact hi)
  have hr : i % C < C := Nat.mod_lt _ hC
  have e1 : (i / C + 1) * I ≤ R * I := Nat.mul_le_mul hq (Nat.le_refl _)
  rw [Nat.add_mul, Nat.one_mul] at e1
  have e2 : C ≤ I * C := Nat.le_mul_of_pos_left _ hI
  have e3 : R * I ≤ P * (R * I) := Nat.le_mul_of_pos_left _ hP
  have e4 : I ≤ R * I := Nat.le_mul_of_pos_left _ hR
  have e5 : R * C ≤ P * (R * C) := Nat.le_mul_of_pos_left _ hP
  have e6 : I * C ≤ ysB.length := by
    rw [lB]
    split
    · exact Nat.le_mul_of_pos_left _ hP
    · exact Nat.le_refl _
  have e7 : i / C ≤ i := Nat.div_le_self _ _
  refine ⟨i / C, i % C, i / C * I, I * C, Lib.hid ⟨rfl, rfl, rfl, rfl⟩, e1, by generalize i % C = q1 at *; generalize I * C = q2 at *; omega, e6, ?_, ?_, hI, rfl, rfl, ?_, ?_, rfl, rfl⟩
  · intro j hj
    have h1 : (j + 1) * C ≤ I * C := Nat.mul_le_mul hj (Nat.le_refl _)
    rw [Nat.add_mul, Nat.one_mul] at h1
    generalize i % C = q1 at *; generalize I * C = q2 at *; generalize j * C = q3 at *; omega
  · generalize P * (R * I) = q1 at *; generalize R * I = q2 at *; omega
  · rw [IntWalk.i64_left]; refine wrap_nat' _ ?_; generalize P * (R * C) = q1 at *; generalize R * C = q2 at *; generalize i / C = q3 at *; omega
  · have a1 : ((i / C : Nat) : Int) * I = ((i / C * I : Nat) : Int) := by simp
    rw [a1, IntWalk.i64_left]; refine wrap_nat' _ ?_; generalize P * (R * I) = q1 at *; generalize R * I = q2 at *; generalize i / C * I = q3 at *; omega
/-- Word i of block k. -/
theorem mulG_at {xsA ysA xsB ysB : List Int} {P R I C i k : Nat} (h : MulShape xsA ysA xsB ysB P R I C) (hi : i < R * C) (hk : k < P) (f : Nat) (X Y : List Int) (hX : X = (ysA.drop (k * (R * I) + i / C * I)).take I) (kB : Nat)
    (hkB : kB = if decide (xsB.length = xsA.length) = true then k * (I * C) else 0) (hY : ∀ j, j < I → Y[j * C]?.getD 0 = ysB[kB + i % C + j * C]?.getD 0) :
    shI (dotK X Y C I) f = mulG ysA ysB R I C (decide (xsB.length = xsA.length)) f (k * (R * C) + i) := by
  obtain ⟨hP, hR, hI, hC, lA, lT, lB, bA, bT, bB⟩ := h
  obtain ⟨e1, e2, e3⟩ := place_div k R C i hC hi hR
  unfold mulG
  rw [e1, e2, e3]
  rw [dotK_sumAt ysA ysB X Y ((k * R + i / C) * I) ((if decide (xsB.length = xsA.length) = true then k else 0) * (I * C) + i % C) C I ?_ ?_ I (Nat.le_refl _)]
  · intro j hj
    rw [hX, take_drop_get _ _ _ _ hj, Nat.add_mul, Nat.mul_assoc]
  · intro j hj
    rw [hY j hj, hkB]
    split
    · rfl
    · rw [Nat.zero_mul]
/-- What matmul.Mul hands back: the error, the shape, the words. -/
def mulN (xsA xsB : List Int) : Nat := (prodI (outL xsA xsB)).toNat
def mulW (xsA ysA xsB ysB : List Int) (f : Nat) : Nat → Int :=
  mulG ysA ysB (xsA[xsA.length - 2]?.getD 0).toNat (xsA[xsA.length - 1]?.getD 0).toNat (xsB[xsB.length - 1]?.getD 0).toNat (decide (xsB.length = xsA.length)) f
def mulE (xsA ysA xsB ysB : List Int) (f : Nat) : Int :=
  if outE xsA xsB = 0 then (if ((List.range (mulN xsA xsB)).all fun j => isW (mulW xsA ysA xsB ysB f j)) = true then 0 else 3) else outE xsA xsB
def mulX (xsA ysA xsB ysB : List Int) (f : Nat) : List Int := if mulE xsA ysA xsB ysB f = 0 then outL xsA xsB else []
def mulY (xsA ysA xsB ysB : List Int) (f : Nat) : List Int := if mulE xsA ysA xsB ysB f = 0 then (List.range (mulN xsA xsB)).map (mulW xsA ysA xsB ysB f) else []
theorem Ten.next {w w' : World} {a b : Option Addr} {c d : Nat} {xs ys : List Int} (h : Ten w w.heap.size a c b d xs ys) (hb : Below w.heap.size w w') : Ten w' w'.heap.size a c b d xs ys :=
  (h.below hb (Nat.le_refl _)).mono hb.size
theorem intsSub {k : IntKind} {w : World} {hi b o : Nat} {xs : List Int} (h : Ints k w hi (some ⟨b, o, none⟩) xs) (s n : Nat) (hs : s + n ≤ xs.length) : Ints k w hi (some ⟨b, o + s, none⟩) ((xs.drop s).take n) ∧ ((xs.drop s).take n).length = n :=
  ⟨⟨by have := h.len; simp; omega, fun x hx => h.wf x (List.mem_of_mem_drop (List.mem_of_mem_take hx)), fun i hi' => by
    have hl : i < n := by simp at hi'; omega
    obtain ⟨b2, o2, ha, hlt, hc⟩ := h.cell (s + i) (by omega)
    cases ha
    refine ⟨_, _, rfl, hlt, ?_⟩
    rw [Nat.add_assoc, hc, take_drop_get _ _ _ _ hl]⟩, by simp; omega⟩
theorem box2_new (w : World) (v0 v1 : Value) (t : TypeId) : Box2 (w.alloc (.cells #[v0, v1] t)) w.heap.size v0 v1 := by constructor <;> go_simp
/-- A tensor of the call's own that is being filled: its header in block Q, its words in block g; below mid nothing has turned since W. -/
structure Fill (W wr : World) (mid Q g d N : Nat) (v0 v1 : Value) (xs : List Int) : Prop where
  sz : W.heap.size ≤ wr.heap.size
  bel : Below mid W wr
  row : wr.ownsRow mid 2 1 (.slice (some ⟨g, 0, none⟩) N d) N (xs.map (Value.int .i64))
  box : Box2 wr Q v0 v1
theorem Fill.lt {W wr : World} {mid Q g d N : Nat} {v0 v1 : Value} {xs : List Int} (h : Fill W wr mid Q g d N v0 v1 xs) : mid ≤ g ∧ g < wr.heap.size := h.row.lt g rfl
theorem Fill.ltQ {W wr : World} {mid Q g d N : Nat} {v0 v1 : Value} {xs : List Int} (h : Fill W wr mid Q g d N v0 v1 xs) : Q < wr.heap.size := World.block_lt_of_cell? wr _ h.box.c0
theorem Fill.next {W wr w' : World} {mid Q g d N : Nat} {v0 v1 : Value} {xs : List Int} (h : Fill W wr mid Q g d N v0 v1 xs) (hb : Below wr.heap.size wr w') : Fill W w' mid Q g d N v0 v1 xs :=
  ⟨Nat.le_trans h.sz hb.size, h.bel.trans (hb.mono (Nat.le_of_lt (Nat.lt_of_le_of_lt h.lt.1 h.lt.2))), own_below h.row hb (Nat.le_refl _), h.box.below hb h.ltQ⟩
theorem Fill.set {W wr : World} {mid Q g d N : Nat} {v0 v1 : Value} {xs : List Int} (h : Fill W wr mid Q g d N v0 v1 xs) (j : Nat) (x : Int) (hQ : Q ≠ g) : Fill W (wr.setCell ⟨g, j, none⟩ (.int .i64 x)) mid Q g d N v0 v1 (xs.set j x) := by
  refine ⟨by simpa using h.sz, h.bel.setCell h.lt.1 _, ?_, ?_⟩
  · have := (h.row.stored j (.int .i64 x)).1
    rwa [map_set] at this
  · obtain ⟨c0, c1, f0, f1⟩ := h.box
    constructor <;> go_simp
theorem Fill.cell {W wr : World} {mid Q g d N : Nat} {v0 v1 : Value} {xs : List Int} (h : Fill W wr mid Q g d N v0 v1 xs) (j : Nat) (hj : j < N) : wr.cell? ⟨g, j, none⟩ = some (.int .i64 (xs[j]?.getD 0)) ∧ wr.frozen? ⟨g, j, none⟩ = false :=
  ⟨own_cell h.row hj, h.row.frozenAt j⟩
theorem retTen_bad {w w' : World} {S : List Int} {G : Nat → Int} {N : Nat} {ZX ZY : List Int} {ZE : Int} (hZ : Hid (ZE = 3)) (hX : Hid (ZX = if ZE = 0 then S else [])) (hY : Hid (ZY = if ZE = 0 then (List.range N).map G else []))
    (hb : Below w.heap.size w w') : RetTen w ZX ZY ZE (.returned (.tuple #[.agg #[.slice none 0 0, .slice none 0 0], .int .i64 3])) w' := by
  have e1 := hZ.out
  have e2 := hX.out
  have e3 := hY.out
  rw [e1, if_neg (by decide)] at e2 e3
  subst e1 e2 e3
  exact ⟨none, 0, none, 0, w'.heap.size, rfl, hb.size, Nat.le_refl _, Ints.nil _ _ _ _, ⟨⟨by simp, by decide⟩, ownB_nil _ _ _ _⟩, World.ownsRow_nil _ _ _ _, hb⟩
theorem retTen_good {w W wr : World} {q mid Q g d N c1 : Nat} {a1 : Option Addr} {S : List Int} {G : Nat → Int} {ZX ZY : List Int} {ZE : Int} {v0 v1 : Value} {B : Nat}
    (hE : Hid (ZE = if ((List.range N).all fun j => isW (G j)) = true then 0 else 3)) (hX : Hid (ZX = if ZE = 0 then S else [])) (hY : Hid (ZY = if ZE = 0 then (List.range N).map G else []))
    (hG : Hid (∀ j, j < N → isW (G j) = true)) (hcap : Hid (S.length ≤ c1 ∧ c1 ≤ 9223372036854775807)) (hsh : Hid (OwnB W B mid 3 (.slice a1 S.length c1) S.length (S.map (Value.int .i64))))
    (hF : Hid (Fill W wr mid Q g d N v0 v1 (partL G N N))) (hI : Hid (Ints .i64 W mid a1 S)) (hqB : q < B) (hwB : w.heap.size ≤ B) (hwm : B ≤ mid) (hwq : w.heap.size ≤ q)
    (hb : Hid (Below w.heap.size w wr)) (x y : Value) :
    RetTen w ZX ZY ZE (.returned (.tuple #[.agg #[.slice a1 S.length c1, .slice (some ⟨g, 0, none⟩) N d], .int .i64 0])) ((wr.setCell ⟨q, 0, none⟩ x).setCell ⟨q, 1, none⟩ y) := by
  have e1 := hE.out
  have e2 := hX.out
  have e3 := hY.out
  rw [if_pos (List.all_eq_true.2 (fun j hj => hG.out j (by simpa using hj)))] at e1
  rw [e1, if_pos rfl] at e2 e3
  subst e1 e2 e3
  have hl := hF.out.lt
  have hlen : ((List.range N).map G).length = N := by simp
  have hrow := hF.out.row
  rw [partL_full] at hrow
  have hne : ZX.length = 0 ∨ ∃ g, a1 = some ⟨g, 0, none⟩ ∧ q < g := hsh.out.shape.imp id (fun ⟨g, hg, h⟩ => ⟨g, hg, by omega⟩)
  refine ⟨a1, c1, some ⟨g, 0, none⟩, d, mid, by rw [hlen], by omega, by simp; omega, ?_, ⟨hcap.out, (((hsh.out.below hF.out.bel (Nat.le_refl _)).set (.inl hqB)).set (.inl hqB)).mono hwB (Nat.le_refl _)⟩, ?_, ?_⟩
  · exact ints_setCell (ints_setCell (hI.out.below hF.out.bel (Nat.le_refl _)) hne) hne
  · rw [hlen]
    have hqm : q < mid := by omega
    exact ownsRow_setCell_below (ownsRow_setCell_below hrow hqm _) hqm _
  · exact (hb.out.setCell hwq _).setCell hwq _
end Go.Proofs.Ytadlnmckcnfacaa
