/- Walks: the sum of products of a row and a column. -/
import Derived.Test.YtddhhfhammmaaaaGreatMWords
import Derived.Deep.RegionWith
set_option linter.unusedVariables false
set_option linter.unusedSimpArgs false
namespace Go.Proofs.YtddhhfhammmaaaaGreat
open Go.RowKit Go.Rt

/-- The sum of the first k products: row by column, whose words stand st apart. -/
def dotK (xs ys : List Int) (st : Nat) : Nat → Int
  | 0 => 0
  | k + 1 => dotK xs ys st k + xs[k]?.getD 0 * ys[k * st]?.getD 0

theorem word_mul (x y : Int) (hx : isW x = true) (hy : isW y = true) : -19807040628566084398385987584 ≤ x * y ∧ x * y ≤ 19807040628566084398385987584 := by
  have h1 := isW_iff.1 hx
  have h2 := isW_iff.1 hy
  have a1 : absI x ≤ 140737488355328 ∧ 0 ≤ absI x := by unfold absI; split <;> omega
  have a2 : absI y ≤ 140737488355328 ∧ 0 ≤ absI y := by unfold absI; split <;> omega
  have h := Int.mul_le_mul a1.1 a2.1 a2.2 (by omega)
  have h0 := Int.mul_nonneg a1.2 a2.2
  have e := abs_mul x y
  split at e <;> omega
theorem dotK_bound (xs ys : List Int) (st : Nat) (hx : ∀ x ∈ xs, isW x = true) (hy : ∀ y ∈ ys, isW y = true) : ∀ k : Nat, -(k * 19807040628566084398385987584 : Int) ≤ dotK xs ys st k ∧ dotK xs ys st k ≤ k * 19807040628566084398385987584
  | 0 => by simp [dotK]
  | k + 1 => by
    have ih := dotK_bound xs ys st hx hy k
    have hw : ∀ (l : List Int) (j : Nat), (∀ x ∈ l, isW x = true) → isW (l[j]?.getD 0) = true := fun l j h => by
      by_cases hj : j < l.length
      · rw [List.getElem?_eq_getElem hj]; exact h _ (List.getElem_mem hj)
      · rw [List.getElem?_eq_none (by omega)]; decide
    have hm := word_mul _ _ (hw xs k hx) (hw ys (k * st) hy)
    simp only [dotK]
    rw [Int.natCast_add, Int.add_mul]
    omega

set_option maxHeartbeats 1000000 in
set_option maxRecDepth 100000 in
theorem dot_any (a b : Option Addr) (c d st : Nat) (xs ys : List Int) (w : World) (h : Ints .i64 w w.heap.size a xs) (h2 : Ints .i64 w w.heap.size b ys) (hx : ∀ x ∈ xs, isW x = true) (hy : ∀ y ∈ ys, isW y = true)
    (hin : ∀ k, k < xs.length → k * st < ys.length) (hlen : xs.length ≤ 65536) (hylen : ys.length ≤ 65536) :
    Calls Tryz.prog 39 #[.slice a xs.length c, .slice b ys.length d, .int .i64 st] w (RetW w (dotK xs ys st xs.length / 18446744073709551616) (dotK xs ys st xs.length % 18446744073709551616)) := by
  obtain ⟨hm, _, hc⟩ := h
  obtain ⟨hm2, _, hc2⟩ := h2
  have HBD := Lib.hid (dotK_bound xs ys st hx hy)
  have HX := Lib.hid hx
  have HY := Lib.hid hy
  clear hx hy
  go_enter Tryz.func39, Tryz.ntmps39
  go_wp2
  go_loopw [12] (fun i wr => ∃ k : Nat, k ≤ xs.length ∧ i = .int .i64 k ∧ w.heap.size + 1 + 1 ≤ wr.heap.size ∧ Below w.heap.size w wr ∧ Hid (Box2 wr w.heap.size (.int .i64 0) (.int .u64 0)) ∧ Hid (Box2 wr (w.heap.size + 1) (.int .i64 (dotK xs ys st k / 18446744073709551616)) (.int .u64 (dotK xs ys st k % 18446744073709551616)))) (fun i _ => xs.length - (intOf i).toNat)
  case atStart => exact ⟨0, Nat.zero_le _, rfl, by simp, (by (repeat' (first | exact Below.refl _ _ | refine Below.drew ?_ | refine Below.setCell ?_ (by first | omega | (simp <;> omega)) _ | refine Below.alloc ?_ (by first | omega | (simp <;> omega)) _))), Lib.hid (by constructor <;> go_simp), Lib.hid (by rw [show dotK xs ys st 0 = 0 from rfl]; constructor <;> go_simp)⟩
  case round =>
    obtain ⟨k, hk, rfl, hsz, hbel, HR, HT⟩ := hrel
    have HB := Lib.hid hbel
    by_cases hlt : k < xs.length
    · obtain ⟨ba, off, rfl, hlb, hcell⟩ := hc k hlt
      obtain ⟨bb, off2, rfl, hlb2, hcell2⟩ := hc2 (k * st) (hin k hlt)
      have hin2 := hin k hlt
      clear hc hc2 hin
      have hcx := (hbel.cell (p := ⟨ba, off + k, none⟩) hlb).trans hcell
      have hcy := (hbel.cell (p := ⟨bb, off2 + k * st, none⟩) hlb2).trans hcell2
      clear hcell hcell2 hbel
      have hbk := HBD.out k
      have hbk1 := HBD.out (k + 1)
      have HN : Hid (dotK xs ys st (k + 1) = dotK xs ys st k + xs[k]?.getD 0 * ys[k * st]?.getD 0) := Lib.hid rfl
      have hwx : isW (xs[k]?.getD 0) = true := by rw [List.getElem?_eq_getElem hlt]; exact HX.out _ (List.getElem_mem hlt)
      have hwy : isW (ys[k * st]?.getD 0) = true := by rw [List.getElem?_eq_getElem hin2]; exact HY.out _ (List.getElem_mem hin2)
      have hwm := word_mul _ _ hwx hwy
      have hwx' := isW_iff.1 hwx
      have hwy' := isW_iff.1 hwy
      generalize xs[k]?.getD 0 = x at hcx HN hwm hwx'
      generalize ys[k * st]?.getD 0 = y at hcy HN hwm hwy'
      have ewk : IntKind.i64.wrap ((k : Int) * st) = ((k * st : Nat) : Int) := by rw [IntKind.wrap_i64, Int.natCast_mul]; have : (k : Int) * st = ((k * st : Nat) : Int) := (Int.natCast_mul k st).symm; omega
      have hmul := fun w => Lib.hid (mul_any x y w (by omega) (by omega) (by omega) (by omega))
      rw [HN.out] at hbk1
      generalize hS : dotK xs ys st k = S at HT HN hbk hbk1
      generalize hPxy : x * y = Pxy at hmul HN hwm hbk1
      have hadd := fun w => Lib.hid (add_in (S / 18446744073709551616) (S % 18446744073709551616) (Pxy / 18446744073709551616) (Pxy % 18446744073709551616) w ⟨by omega, by omega, by omega, by omega⟩ ⟨by omega, by omega, by omega, by omega⟩ (by rw [V_split3, V_split3]; exact ⟨by omega, by omega⟩))
      rw [V_split3, V_split3] at hadd
      have HN2 : Hid (dotK xs ys st (k + 1) = S + Pxy) := HN
      clear HN hbk hbk1 hwx hwy hwx' hwy' hPxy hwm
      generalize hSH : S / 18446744073709551616 = SH at hadd HT
      generalize hSL : S % 18446744073709551616 = SL at hadd HT
      generalize hPH : Pxy / 18446744073709551616 = PH at hadd hmul
      generalize hPL : Pxy % 18446744073709551616 = PL at hadd hmul
      generalize hN : S + Pxy = N at hadd HN2
      generalize hNH : N / 18446744073709551616 = NH at hadd
      generalize hNL : N % 18446744073709551616 = NL at hadd
      have HNH := Lib.hid hNH
      have HNL := Lib.hid hNL
      clear hS hSH hSL hPH hPL hN hNH hNL
      obtain ⟨t0, t1, t2, t3⟩ := HT.out
      go_wp2
      go_region_with (first | (go_at_call 70; refine (hmul _).out.mono ?_; rintro e w1 ⟨rfl, hb⟩; have HB1 := Lib.hid hb; have hs1 := hb.size; (try simp at hs1); have X := (HT.out.below (n := wr.heap.size) (by (repeat' (first | exact Below.refl _ _ | refine Below.drew ?_ | refine Below.setCell ?_ (by first | omega | (simp <;> omega)) _ | refine Below.alloc ?_ (by first | omega | (simp <;> omega)) _))) (by first | omega | (simp <;> omega))).below hb (by first | omega | (simp <;> omega)); have HX1 := Lib.hid X; obtain ⟨p0, p1, p2, p3⟩ := X; clear hb) | (go_at_call 69; refine (hadd _).out.mono ?_; rintro e w2 ⟨rfl, hb⟩; have HB2 := Lib.hid hb; have hs2 := hb.size; (try simp at hs2); have X := HX1.out.below hb (by first | omega | (simp <;> omega)); have HX2 := Lib.hid X; obtain ⟨q0, q1, q2, q3⟩ := X; clear hb))
      all_goals
        go_wp2
        go_roundw
        case measure => simp [intOf]; omega
        case rel =>
          have R := ((HR.out.below (n := wr.heap.size) (by (repeat' (first | exact Below.refl _ _ | refine Below.drew ?_ | refine Below.setCell ?_ (by first | omega | (simp <;> omega)) _ | refine Below.alloc ?_ (by first | omega | (simp <;> omega)) _))) (by first | omega | (simp <;> omega))).below HB1.out (by first | omega | (simp <;> omega))).below HB2.out (by first | omega | (simp <;> omega))
          obtain ⟨r0, r1, r2, r3⟩ := R
          have hl2 : w.heap.size + 1 + 1 ≤ w2.heap.size := by omega
          refine ⟨k + 1, by omega, by go_num, by simpa using hl2, ?_, Lib.hid ?_, Lib.hid ?_⟩
          · iterate 2 refine Below.setCell ?_ (by first | omega | (simp <;> omega)) _
            exact HB.out.trans (Below.trans (by (repeat' (first | exact Below.refl _ _ | refine Below.drew ?_ | refine Below.setCell ?_ (by first | omega | (simp <;> omega)) _ | refine Below.alloc ?_ (by first | omega | (simp <;> omega)) _))) (Below.trans (HB1.out.mono (by first | omega | (simp <;> omega))) (HB2.out.mono (by first | omega | (simp <;> omega)))))
          · constructor <;> go_simp
          · rw [HN2.out, HNH.out, HNL.out]
            constructor <;> go_simp
    · have hke : k = xs.length := by omega
      subst hke
      obtain ⟨t0, t1, t2, t3⟩ := HT.out
      obtain ⟨r0, r1, r2, r3⟩ := HR.out
      clear hc hc2 hbel HT HR
      go_wp2
      (try simp only [Exit.noGoto, Exit.inBlock, Exit.then])
      refine bodyPost_ret (v := .agg #[.int .i64 (dotK xs ys st xs.length / 18446744073709551616), .int .u64 (dotK xs ys st xs.length % 18446744073709551616)]) (by rw [results_c1 rfl]; go_simp) rfl ⟨rfl, ?_⟩
      iterate 2 refine Below.setCell ?_ (by first | omega | (simp <;> omega)) _
      exact HB.out
end Go.Proofs.YtddhhfhammmaaaaGreat
