/- Layer 17: small functions, the argument in memory, plain laws. -/
import Derived.Test.YtimjhjacinchjaaGreatERows2
import Derived.Test.YtimjhjacinchjaaGreatEDrop
set_option linter.unusedVariables false
set_option linter.unusedSimpArgs false
namespace Go.Proofs.YtimjhjacinchjaaGreat
open Go.ChangeShapes Go.WideShapes Go.RowKit Go.Rt

theorem num17_any (e : Int) (w : World) : Calls Tryz.prog 35 #[.int .i64 e] w fun r w' => r = .returned (.int .i64 e) ∧ w = w' := by
  go_enter Tryz.func35, Tryz.ntmps35
  go_wp2
  go_ret
  exact ⟨rfl, rfl⟩

def heavyE (n m i k : Nat) : Bool := (decide ((40 : Int) < m) || decide (8 < n)) || (decide ((60 : Int) < i) || decide ((100 : Int) < k))
theorem heavy17_any (a b i m : Option Addr) (n c k d ni ci nm cm : Nat) (x f : Int) (w : World) (hn : n ≤ 9223372036854775807) (hm : k ≤ 9223372036854775807) :
    Calls Tryz.prog 4 #[.agg #[.slice a n c, .slice b k d, .slice i ni ci, .slice m nm cm, .int .i64 x, .int .i64 f]] w fun e w' => e = .returned (.bool (heavyE n k ni nm)) ∧ Below w.heap.size w w' := by
  have h1 := fun w => Lib.hid (heavyT_any a b n c k d 40 w hn hm)
  unfold heavyE
  generalize (decide ((40 : Int) < k) || decide (8 < n)) = B1 at *
  cases B1 with
  | true =>
    rw [Bool.true_or]
    go_enter Tryz.func4, Tryz.ntmps4
    go_wp2_with (go_at_call 16; refine (h1 _).out.mono ?_; rintro e w1 ⟨rfl, hb⟩; have HB1 := Lib.hid hb; clear hb)
    go_ret
    exact ⟨rfl, Below.trans (by (repeat' (first | exact Below.refl _ _ | refine below_drewN ?_ _ | refine Below.drew ?_ | refine Below.setCell ?_ (by first | omega | (simp <;> omega)) _ | refine Below.alloc ?_ (by first | omega | (simp <;> omega)) _))) (HB1.out.mono (by first | omega | (simp <;> omega)))⟩
  | false =>
    rw [Bool.false_or]
    by_cases h2 : (60 : Int) < ni
    · rw [decide_eq_true h2, Bool.true_or]
      go_enter Tryz.func4, Tryz.ntmps4
      go_wp2_with (go_at_call 16; refine (h1 _).out.mono ?_; rintro e w1 ⟨rfl, hb⟩; have HB1 := Lib.hid hb; have z2 := hb.cell (p := ⟨w.heap.size, 2, none⟩) (by first | omega | (simp <;> omega)); (try simp at z2); clear hb)
      go_ret
      exact ⟨rfl, Below.trans (by (repeat' (first | exact Below.refl _ _ | refine below_drewN ?_ _ | refine Below.drew ?_ | refine Below.setCell ?_ (by first | omega | (simp <;> omega)) _ | refine Below.alloc ?_ (by first | omega | (simp <;> omega)) _))) (HB1.out.mono (by first | omega | (simp <;> omega)))⟩
    · rw [decide_eq_false h2, Bool.false_or]
      go_enter Tryz.func4, Tryz.ntmps4
      go_wp2_with (go_at_call 16; refine (h1 _).out.mono ?_; rintro e w1 ⟨rfl, hb⟩; have HB1 := Lib.hid hb; have z2 := hb.cell (p := ⟨w.heap.size, 2, none⟩) (by first | omega | (simp <;> omega)); (try simp at z2); have z3 := hb.cell (p := ⟨w.heap.size, 3, none⟩) (by first | omega | (simp <;> omega)); (try simp at z3); clear hb)
      go_ret
      refine ⟨?_, Below.trans (by (repeat' (first | exact Below.refl _ _ | refine below_drewN ?_ _ | refine Below.drew ?_ | refine Below.setCell ?_ (by first | omega | (simp <;> omega)) _ | refine Below.alloc ?_ (by first | omega | (simp <;> omega)) _))) (HB1.out.mono (by first | omega | (simp <;> omega)))⟩
      show Ending.returned (Value.bool (decide ((60 : Int) < ni) || decide ((100 : Int) < nm))) = _
      rw [decide_eq_false (show ¬ (60 : Int) < ni by omega), Bool.false_or]

theorem wakesR (W : World) (b0 b1 b2 : Nat) (h1 : Ten W W.heap.size (some ⟨b0, 0, none⟩) 2 (some ⟨b1, 0, none⟩) 2 [2, 1] [5, 6]) (h2 : Ints .i64 W W.heap.size (some ⟨b2, 0, none⟩) [1]) :
    Calls Tryz.prog 11 #[.agg #[.slice (some ⟨b0, 0, none⟩) 2 2, .slice (some ⟨b1, 0, none⟩) 2 2], .slice (some ⟨b2, 0, none⟩) 1 1] W (RetTen W [1, 1] [6] 0) := by
  have h := embRows_any _ _ _ 2 2 1 [2, 1] [5, 6] [1] W h1 h2 (by decide)
  have e1 : embX [2, 1] [1] = [1, 1] := by decide +kernel
  have e2 : embY [2, 1] [5, 6] [1] = [6] := by decide +kernel
  have e3 : embE [2, 1] [1] = 0 := by decide +kernel
  rw [e1, e2, e3] at h
  exact h
theorem wakes17_any (w : World) : Calls Tryz.prog 15 #[] w fun e w' => e = .returned (.bool true) ∧ Below w.heap.size w w' := by
  have hm := fun W h1 h2 => Lib.hid (wakesR W w.heap.size (w.heap.size + 1) (w.heap.size + 1 + 1) h1 h2)
  go_enter Tryz.func15, Tryz.ntmps15
  go_upto_region 2 with (go_at_call 11; refine (hm _ ⟨ints2 (by simp [go_sem]) (by simp [go_sem]) (by decide) (by decide), ints2 (by simp [go_sem]) (by simp [go_sem]) (by decide) (by decide), by decide, by decide, by decide, by decide⟩ (ints1 (by simp [go_sem]) (by decide))).out.mono ?_; rintro e w1 ⟨a1, c1, b1, d1, mid, rfl, hm1, hm2, hI, hcap, hO, hb⟩; have HB1 := Lib.hid hb; have hs1 := hb.size; (try simp at hs1); have HO1 := Lib.hid hO; clear hb hO hI hcap hm1)
  obtain ⟨aa, cc, he, hI⟩ := own_ints HO1.out (by decide)
  cases he
  have hq := fun W (hb : Below w1.heap.size w1 W) h2 => Lib.hid (eqWords_any b1 (some ⟨w1.heap.size + 1, 0, none⟩) d1 1 W.heap.size [6] [6] W ((hI.below hb (Nat.le_refl _)).mono hb.size) h2)
  clear hI
  go_wp2_with (first | (go_at_call 35; refine (num17_any _ _).mono ?_; rintro e w' ⟨rfl, rfl⟩) | (go_at_call 34; refine (hq _ (by (repeat' (first | exact Below.refl _ _ | refine below_drewN ?_ _ | refine Below.drew ?_ | refine Below.setCell ?_ (by first | omega | (simp <;> omega)) _ | refine Below.alloc ?_ (by first | omega | (simp <;> omega)) _))) (ints1 (by simp [go_sem]) (by decide))).out.mono ?_; rintro e w2 ⟨rfl, q, rfl⟩))
  go_ret
  exact ⟨rfl, Below.trans (Below.trans (by (repeat' (first | exact Below.refl _ _ | refine below_drewN ?_ _ | refine Below.drew ?_ | refine Below.setCell ?_ (by first | omega | (simp <;> omega)) _ | refine Below.alloc ?_ (by first | omega | (simp <;> omega)) _))) (HB1.out.mono (by first | omega | (simp <;> omega)))) (by (repeat' (first | exact Below.refl _ _ | refine below_drewN ?_ _ | refine Below.drew ?_ | refine Below.setCell ?_ (by first | omega | (simp <;> omega)) _ | refine Below.alloc ?_ (by first | omega | (simp <;> omega)) _)))⟩

/-- An element of layer 17's statements: a tensor, ids and a mask, a word, a number. -/
structure AskAt (w : World) (hi b o : Nat) (p q : TenV) (x f : Int) : Prop where
  lt : b < hi
  c0 : w.cell? ⟨b, o, none⟩ = some (.slice p.a p.xs.length p.c)
  c1 : w.cell? ⟨b, o + 1, none⟩ = some (.slice p.b p.ys.length p.d)
  c2 : w.cell? ⟨b, o + 2, none⟩ = some (.slice q.a q.xs.length q.c)
  c3 : w.cell? ⟨b, o + 3, none⟩ = some (.slice q.b q.ys.length q.d)
  c4 : w.cell? ⟨b, o + 4, none⟩ = some (.int .i64 x)
  c5 : w.cell? ⟨b, o + 5, none⟩ = some (.int .i64 f)
  tA : Ten w hi p.a p.c p.b p.d p.xs p.ys
  tB : Ten w hi q.a q.c q.b q.d q.xs q.ys
  x0 : -9223372036854775808 ≤ x
  x1 : x ≤ 9223372036854775807
  f0 : -9223372036854775808 ≤ f
  f1 : f ≤ 9223372036854775807
theorem AskAt.below {w w' : World} {hi b o : Nat} {p q : TenV} {x f : Int} (h : AskAt w hi b o p q x f) (hb : Below hi w w') : AskAt w' hi b o p q x f :=
  ⟨h.lt, (hb.cell (p := ⟨b, o, none⟩) h.lt).trans h.c0, (hb.cell (p := ⟨b, o + 1, none⟩) h.lt).trans h.c1, (hb.cell (p := ⟨b, o + 2, none⟩) h.lt).trans h.c2, (hb.cell (p := ⟨b, o + 3, none⟩) h.lt).trans h.c3,
   (hb.cell (p := ⟨b, o + 4, none⟩) h.lt).trans h.c4, (hb.cell (p := ⟨b, o + 5, none⟩) h.lt).trans h.c5, h.tA.below hb (Nat.le_refl _), h.tB.below hb (Nat.le_refl _), h.x0, h.x1, h.f0, h.f1⟩
structure AsksAt (w : World) (hi : Nat) (a : Option Addr) (n : Nat) : Prop where
  len : n ≤ 9223372036854775807
  at_ : ∀ i, i < n → ∃ b off p q x f, a = some ⟨b, off, none⟩ ∧ AskAt w hi b (off + i * 6) p q x f
theorem cellsAsk1 : Tryz.prog.cellsOf 28 = 6 := by kernel_rfl
theorem list6 {α : Type} {cs : List α} (h : cs.length = 6) : ∃ a b c d e f, cs = [a, b, c, d, e, f] := by
  match cs, h with
  | [a, b, c, d, e, f], _ => exact ⟨a, b, c, d, e, f, rfl⟩
theorem asks_of_trod {H : Type} {enc : TypeId × Value → H} {W : World} {spare : Nat → Bool} {held : Bool} {a : Option Addr} {n c : Nat} {d : DataW H} {ps : List MemPlace}
    (h : DataW.Trod enc Tryz.prog W 0 spare held 22 (.slice a n c) d ps) : AsksAt W W.heap.size a n := by
  obtain ⟨fuel, hf⟩ := h
  simp only [Value.cells] at hf
  obtain ⟨a', len, cap, he, hlen, hat⟩ := trod_elems Tryz.underlying22 (by rw [cellsAsk1]; omega) hf
  injection he with e1 e2 e3
  subst e1; subst e2; subst e3
  refine ⟨hlen, fun i hi => ?_⟩
  obtain ⟨b, off, cs, m, y, rfl, hb, hcl, hcell, hy⟩ := hat i hi
  rw [cellsAsk1] at hcl hcell
  obtain ⟨v0, v1, v2, v3, v4, v5, rfl⟩ := list6 hcl
  obtain ⟨n0, y0, ht0⟩ := trod_field Tryz.underlying28 hy 0 _ rfl
  have q0 : (([v0, v1, v2, v3, v4, v5].drop 0).take (Tryz.prog.cellsOf 26)) = [v0, v1] := by rw [cellsT1]; rfl
  have ht0' : DataW.trod enc Tryz.prog W 0 spare held n0 26 [v0, v1] = some y0 := by rw [← q0]; exact ht0
  obtain ⟨n1, y1, u2, hu2, ht2⟩ := trod_field1 Tryz.underlying28 hy 1 _ rfl cellsSl1 (by show 2 < 6; omega)
  obtain ⟨n2, y2, u3, hu3, ht3⟩ := trod_field1 Tryz.underlying28 hy 2 _ rfl cellsSl1 (by show 3 < 6; omega)
  obtain ⟨n3, y3, u4, hu4, ht4⟩ := trod_field1 Tryz.underlying28 hy 3 _ rfl cellsI1 (by show 4 < 6; omega)
  obtain ⟨n4, y4, u5, hu5, ht5⟩ := trod_field1 Tryz.underlying28 hy 4 _ rfl cellsN1 (by show 5 < 6; omega)
  have e2 : v2 = u2 := by simpa using hu2
  have e3 : v3 = u3 := by simpa using hu3
  have e4 : v4 = u4 := by simpa using hu4
  have e5 : v5 = u5 := by simpa using hu5
  subst e2; subst e3; subst e4; subst e5
  obtain ⟨p, rfl, rfl, hA⟩ := ten_of_trod ht0'
  obtain ⟨ai, ids, ci, rfl, hI, hc, hc2⟩ := trod_ints_cap Tryz.underlying23 Tryz.underlying3 cellsN1 ht2
  obtain ⟨am, ms, cm, rfl, hM, hm, hm2⟩ := trod_ints_cap Tryz.underlying23 Tryz.underlying3 cellsN1 ht3
  obtain ⟨x, hx, _, wx⟩ := DataW.trod_int Tryz.underlying2 ht4
  obtain ⟨k, hk, _, wk⟩ := DataW.trod_int Tryz.underlying3 ht5
  simp at hk hx
  subst hk
  subst hx
  obtain ⟨k0, k1⟩ := wf_i64_iff.1 wk
  obtain ⟨x0, x1⟩ := wf_i64_iff.1 wx
  exact ⟨b, off, p, ⟨ai, ci, am, cm, ids, ms⟩, x, k, rfl, hb, (hcell 0 (by omega)), (hcell 1 (by omega)), (hcell 2 (by omega)), (hcell 3 (by omega)), (hcell 4 (by omega)), (hcell 5 (by omega)), hA, ⟨hI, hM, hc, hc2, hm, hm2⟩, x0, x1, k0, k1⟩

theorem roundI_mul (y p : Int) (hp : 1 ≤ p) : roundI (y * p) p = y := by
  have ep : absI p = p := by unfold absI; rw [if_neg (by omega)]
  have ea : absI (y * p) = absI y * p := by
    unfold absI
    by_cases h : y < 0
    · rw [if_pos h, if_pos (Int.mul_neg_of_neg_of_pos h (by omega)), Int.neg_mul]
    · rw [if_neg h, if_neg]
      have := Int.mul_nonneg (show 0 ≤ y by omega) (show 0 ≤ p by omega)
      omega
  have e1 : absI y * p / p = absI y := Int.mul_ediv_cancel _ (by omega)
  have e2 : absI y * p % p = 0 := Int.mul_emod_left _ _
  have eu : upR (absI y) 0 p = false := by
    unfold upR
    simp
    omega
  unfold roundI
  rw [ea, ep, e1, e2, eu]
  have hp0 : decide (p < 0) = false := by simp; omega
  rw [hp0]
  by_cases h : y < 0
  · have : y * p < 0 := Int.mul_neg_of_neg_of_pos h (by omega)
    rw [decide_eq_true this]
    simp [absI, h]
  · have : ¬ y * p < 0 := by
      have := Int.mul_nonneg (show 0 ≤ y by omega) (show 0 ≤ p by omega)
      omega
    rw [decide_eq_false this]
    simp [absI, h]
theorem pow2_pos (n : Nat) : (1 : Int) ≤ 2 ^ n := by
  have := Nat.pow_pos (n := n) (show 0 < 2 by decide)
  rw [← castPow]
  omega
theorem shI_one (y : Int) (f : Nat) : shI (y * 2 ^ f) f = y := roundI_mul y _ (pow2_pos f)
/-- Words dropped, with 1 as the word: what stays. -/
def keepV (ms ys : List Int) (i : Nat) : Int := if ms[i]?.getD 0 = 0 then 0 else ys[i]?.getD 0
theorem dropV_one (ms ys : List Int) (f i : Nat) : dropV ms ys (2 ^ f) f i = keepV ms ys i := by
  unfold dropV keepV
  rw [shI_one]
theorem keep_word {ms ys : List Int} (h : ∀ y ∈ ys, isW y = true) (i : Nat) : isW (keepV ms ys i) = true := by
  unfold keepV
  split
  · decide
  · by_cases hi : i < ys.length
    · rw [List.getElem?_eq_getElem hi]; exact h _ (List.getElem_mem hi)
    · rw [List.getElem?_eq_none (by omega)]; decide
def keepL (ms ys : List Int) : List Int := (List.range ys.length).map (keepV ms ys)
theorem keepL_len (ms ys : List Int) : (keepL ms ys).length = ys.length := by simp [keepL]
theorem keepL_get (ms ys : List Int) {i : Nat} (h : i < ys.length) : (keepL ms ys)[i]?.getD 0 = keepV ms ys i := by simp [keepL, h]
theorem drop_one {xs ys ms : List Int} (f : Nat) (h : ∀ y ∈ ys, isW y = true) (hl : ms.length = ys.length) : dropE ys ms (2 ^ f) f = 0 ∧ dropX xs ys ms (2 ^ f) f = xs ∧ dropY ys ms (2 ^ f) f = keepL ms ys := by
  have e0 : dropE ys ms (2 ^ f) f = 0 := by
    unfold dropE
    rw [if_pos hl, if_pos]
    refine List.all_eq_true.2 fun i _ => ?_
    rw [dropV_one]
    exact keep_word h i
  refine ⟨e0, by unfold dropX; rw [if_pos e0], ?_⟩
  unfold dropY keepL
  rw [if_pos e0]
  apply List.map_congr_left
  intro i _
  exact dropV_one ms ys f i
theorem keep_keep (ms ys : List Int) : keepL ms (keepL ms ys) = keepL ms ys := by
  unfold keepL
  rw [List.length_map, List.length_range]
  apply List.map_congr_left
  intro i hi
  have hi := List.mem_range.1 hi
  unfold keepV
  by_cases h : ms[i]?.getD 0 = 0
  · rw [if_pos h, if_pos h]
  · rw [if_neg h, if_neg h]
    simp [hi, keepV, h]
theorem keep_none {ms ys : List Int} (h : ∀ i, i < ys.length → ms[i]?.getD 0 ≠ 0) : keepL ms ys = ys := by
  apply List.ext_getElem
  · simp [keepL]
  · intro i h1 h2
    simp only [keepL, List.getElem_map, List.getElem_range]
    unfold keepV
    rw [if_neg (h i h2), List.getElem?_eq_getElem h2, Option.getD_some]
theorem keep_ten {xs ys ms : List Int} (h : tenB xs ys = true) : tenB xs (keepL ms ys) = true := by
  obtain ⟨h1, h2, h3⟩ := tenB_iff.1 h
  refine tenB_iff.2 ⟨h1, by rw [keepL_len]; exact h2, fun y hy => ?_⟩
  obtain ⟨i, _, rfl⟩ := List.mem_map.1 hy
  exact keep_word h3 i
theorem pow_word {f : Nat} (h : f ≤ 32) : isW ((2 : Int) ^ f) = true := by
  have h1 : (2 : Nat) ^ f ≤ 2 ^ 32 := Nat.pow_le_pow_right (by decide) h
  have h2 : (2 : Nat) ^ 32 = 4294967296 := by decide
  rw [h2] at h1
  rw [← castPow]
  generalize (2 : Nat) ^ f = q at *
  exact isW_iff.2 ⟨by omega, by omega⟩
end Go.Proofs.YtimjhjacinchjaaGreat
