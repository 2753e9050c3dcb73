/- Layer 23's laws: the argument; a list of none; the example that wakes. -/
import Derived.Test.YtdpnichgdfpmgaaQdV
import Derived.Test.YtdpnichgdfpmgaaQeW
import Derived.Test.YtdpnichgdfpmgaaOpen
set_option linter.unusedVariables false
set_option linter.unusedSimpArgs false
namespace Go.Proofs.Ytdpnichgdfpmgaa
open Go.RowKit Go.Rt
attribute [local go_sem] Oper.semAt_some
/-- An element of layer 23's statements: buffers. -/
structure BufsAt (w : World) (hi : Nat) (a : Option Addr) (n : Nat) : Prop where
  len : n ≤ 9223372036854775807
  at_ : ∀ i, i < n → ∃ b off al m c L, a = some ⟨b, off, none⟩ ∧ b < hi ∧ w.cell? ⟨b, off + i, none⟩ = some (.slice al m c) ∧ m ≤ 9223372036854775807 ∧ (m ≤ 40 → BL w hi al m L)
theorem cellsB23 : Try.prog.cellsOf 36 = 4 := by kernel_rfl
theorem cellsS23 : Try.prog.cellsOf 23 = 1 := by kernel_rfl
theorem cellsN23 : Try.prog.cellsOf 3 = 1 := by kernel_rfl
theorem list1q {α : Type} {cs : List α} (h : cs.length = 1) : ∃ a, cs = [a] := by
  match cs, h with
  | [a], _ => exact ⟨a, rfl⟩
theorem list4q {α : Type} {cs : List α} (h : cs.length = 4) : ∃ a b c d, cs = [a, b, c, d] := by
  match cs, h with
  | [a, b, c, d], _ => exact ⟨a, b, c, d, rfl⟩
theorem bufs_of_trod {H : Type} {enc : TypeId × Value → H} {W : World} {spare : Nat → Bool} {held : Bool} {a : Option Addr} {n c : Nat} {d : DataW H} {ps : List MemPlace}
    (h : DataW.Trod enc Try.prog W 0 spare held 22 (.slice a n c) d ps) : BufsAt W W.heap.size a n := by
  obtain ⟨fuel, hf⟩ := h
  simp only [Value.cells] at hf
  obtain ⟨a', len, cap, he, hlen, hat⟩ := trod_elems Try.underlying22 (by rw [cellsS23]; omega) hf
  injection he with e1 e2 e3
  subst e1; subst e2; subst e3
  refine ⟨hlen, fun i hi => ?_⟩
  obtain ⟨b, off, cs, m0, y, rfl, hb, hcl, hcell, hy⟩ := hat i hi
  rw [cellsS23] at hcl hcell
  obtain ⟨v0, rfl⟩ := list1q hcl
  obtain ⟨al, m, c2, rfl, hm, hat2⟩ := trod_elems Try.underlying23 (by rw [cellsB23]; omega) hy
  have hone : ∀ j, ∃ B : Buf, j < m → ∃ b2 o2, al = some ⟨b2, o2, none⟩ ∧ b2 < W.heap.size ∧ ∀ q v, B.c[q]? = some v → W.cell? ⟨b2, o2 + j * 4 + q, none⟩ = some v := fun j => by
    by_cases hj : j < m
    · obtain ⟨b2, o2, cs2, m2, y2, e2, hb2, hcl2, hcell2, hy2⟩ := hat2 j hj
      rw [cellsB23] at hcl2 hcell2
      obtain ⟨u0, u1, u2, u3, rfl⟩ := list4q hcl2
      obtain ⟨m4, z4, w0, hw0, g0⟩ := trod_field1 Try.underlying36 hy2 0 _ rfl cellsN23 (by show 0 < 4; omega)
      obtain ⟨m5, z5, w1, hw1, g1⟩ := trod_field1 Try.underlying36 hy2 1 _ rfl cellsN23 (by show 1 < 4; omega)
      obtain ⟨m6, z6, w2, hw2, g2⟩ := trod_field1 Try.underlying36 hy2 2 _ rfl cellsN23 (by show 2 < 4; omega)
      obtain ⟨m7, z7, w3, hw3, g3⟩ := trod_field1 Try.underlying36 hy2 3 _ rfl cellsN23 (by show 3 < 4; omega)
      have e0 : u0 = w0 := by simpa using hw0
      have e1 : u1 = w1 := by simpa using hw1
      have e2' : u2 = w2 := by simpa using hw2
      have e3 : u3 = w3 := by simpa using hw3
      subst e0; subst e1; subst e2'; subst e3
      obtain ⟨f0, hk0, _, _⟩ := DataW.trod_int Try.underlying3 g0
      obtain ⟨f1, hk1, _, _⟩ := DataW.trod_int Try.underlying3 g1
      obtain ⟨f2, hk2, _, _⟩ := DataW.trod_int Try.underlying3 g2
      obtain ⟨f3, hk3, _, _⟩ := DataW.trod_int Try.underlying3 g3
      simp at hk0 hk1 hk2 hk3
      subst hk0; subst hk1; subst hk2; subst hk3
      refine ⟨⟨f0, f1, f2, f3⟩, fun _ => ⟨b2, o2, e2, hb2, fun q v hv => ?_⟩⟩
      have hq : q < 4 := (List.getElem?_eq_some_iff.1 hv).1
      rw [hcell2 q hq]
      exact hv
    · exact ⟨default, fun h => absurd h hj⟩
  have hL : ∃ L : Nat → Buf, ∀ j, j < m → ∃ b2 o2, al = some ⟨b2, o2, none⟩ ∧ b2 < W.heap.size ∧ ∀ q v, (L j).c[q]? = some v → W.cell? ⟨b2, o2 + j * 4 + q, none⟩ = some v := ⟨fun j => Classical.choose (hone j), fun j hj => Classical.choose_spec (hone j) hj⟩
  obtain ⟨L, hL⟩ := hL
  exact ⟨b, off, al, m, c2, L, rfl, hb, by have := hcell 0 (by omega); rw [Nat.mul_one, Nat.add_zero] at this; exact this, hm, fun h40 => ⟨by omega, hL⟩⟩
theorem num23_any (z : Int) (w : World) : Calls Try.prog 9 #[.int .i64 z] w fun e w' => e = .returned (.int .i64 z) ∧ w' = w := by
  go_enter Try.func9, Try.ntmps9
  go_wp2
  go_ret
  exact ⟨rfl, rfl⟩
theorem qcopy_zero (a : Option Addr) (c : Nat) (w : World) : Calls Try.prog 7 #[.slice a 0 c] w fun e w' => e = .returned (.slice none 0 0) ∧ w' = w := by
  go_enter Try.func7, Try.ntmps7
  go_wp2
  go_loopw [3, 4] (fun s3 s4 wr => s3 = .slice none 0 0 ∧ s4 = .int .i64 0 ∧ wr = w) (fun _ _ _ => 0)
  case atStart => exact ⟨rfl, rfl, rfl⟩
  case round =>
    obtain ⟨rfl, rfl, hwr⟩ := hrel
    have hwr := hwr.symm
    subst hwr
    go_wp2
    go_ret
    exact ⟨rfl, rfl⟩
theorem rplace_zero (a : Option Addr) (c : Nat) (w : World) : Calls Try.prog 6 #[.slice a 0 c] w fun e w' => e = .returned (.tuple #[.slice none 0 0, .int .i64 0]) ∧ Below w.heap.size w w' := by
  have HB := Lib.hid (Below.refl w.heap.size w)
  go_enter Try.func6, Try.ntmps6
  go_upto_region 2 with (go_at_call 7; refine (qcopy_zero a c _).mono ?_; rintro e w2 ⟨rfl, hw2⟩; have hw2 := hw2.symm; subst hw2)
  go_upto_region 3 with (at_make; (refine wpl_makeQ 38 4 (.bool false) 1 (by omega) rfl infoBoolQ Try.underlying38 w.heap.size 0 _ _ _ _ rfl rfl rfl rfl rfl rfl (by omega) (Nat.le_refl _) ?_); intro w4 hown hgrow hsz4; have HB2 := Lib.hid (hgrow _ (Nat.le_refl _)); clear hown hgrow HB hsz4)
  go_wp2
  go_loopw [6, 7] (fun s6 s7 wr => s6 = .int .i64 0 ∧ s7 = .int .i64 0 ∧ wr = w4) (fun _ _ _ => 0)
  case atStart => exact ⟨rfl, rfl, rfl⟩
  case round =>
    obtain ⟨rfl, rfl, hwr⟩ := hrel
    have hwr := hwr.symm
    subst hwr
    go_wp2
    go_ret2
    exact ⟨rfl, HB2.out⟩
/-- The example that wakes. -/
def wkL : Nat → Buf := fun i => if i = 0 then ⟨0, 0, 3, 0⟩ else ⟨1, 1, 2, 0⟩
theorem wk_none {k : Nat} (h : ∀ m, m < k → meets (PS wkL id k m) (wkL k) = false) : plK wkL id k = 0 := by
  refine Least.is ⟨Int.le_refl _, ?_, fun r h1 h2 => by omega⟩
  rintro c ⟨m, hm, rfl, hc⟩
  rw [show (id m : Nat) = m from rfl, show (id k : Nat) = k from rfl, h m hm] at hc
  cases hc
theorem wk_0 : plK wkL id 0 = 0 := wk_none fun m h => absurd h (by omega)
theorem wk_1 : plK wkL id 1 = 0 := wk_none fun m h => by
  obtain rfl : m = 0 := by omega
  obtain ⟨h1, h2, _⟩ := PS_same wkL id 1 0
  unfold meets
  rw [h1, h2]
  decide
theorem wk_pk : pkK wkL id 2 = 3 := by
  rw [pkK, pkK, pkK, wk_0, wk_1]
  decide
theorem wk_pl : (PS wkL id 2 1).pl = 0 := by
  have h := PS_at wkL id 1
  rw [wk_1] at h
  have h2 := congrArg Buf.pl h
  exact h2
theorem wk_ok : BufsOk wkL 2 := ⟨by decide, fun i hi => by
  rcases Nat.lt_or_ge i 1 with h | h
  · obtain rfl : i = 0 := by omega
    decide
  · obtain rfl : i = 1 := by omega
    decide⟩
theorem wk_ord : Ord (fun i => (wkL i).fr) id 2 := ⟨fun i j _ h1 h2 => by
  obtain rfl : i = 0 := by omega
  obtain rfl : j = 1 := by omega
  exact .inl (by decide), fun i hi => hi⟩
set_option maxHeartbeats 2000000 in
theorem wakes23_any (w : World) : Calls Try.prog 11 #[] w fun e w' => e = .returned (.bool true) ∧ Below w.heap.size w w' := by
  go_enter Try.func11, Try.ntmps11
  obtain ⟨W1, hW1⟩ : ∃ x, w.alloc (.cells #[.int .i64 0, .int .i64 0, .int .i64 3, .int .i64 0, .int .i64 1, .int .i64 1, .int .i64 2, .int .i64 0] 36) = x := ⟨_, rfl⟩
  have hb1 : Below w.heap.size w W1 := by rw [← hW1]; exact (Below.refl _ _).alloc (Nat.le_refl _) _
  have hs1 : w.heap.size < W1.heap.size := by rw [← hW1]; simp
  have hbx : BoxL W1 w.heap.size [.int .i64 0, .int .i64 0, .int .i64 3, .int .i64 0, .int .i64 1, .int .i64 1, .int .i64 2, .int .i64 0] := by rw [← hW1]; exact BoxL.new w _ _
  have hbl : BL W1 W1.heap.size (some ⟨w.heap.size, 0, none⟩) 2 wkL := ⟨by decide, fun i hi => ⟨_, _, rfl, hs1, fun j v hv => by
    have hj : j < 4 := (List.getElem?_eq_some_iff.1 hv).1
    refine hbx.cell _ _ ?_
    rcases Nat.lt_or_ge i 1 with h | h
    · obtain rfl : i = 0 := by omega
      rw [← hv]
      match j, hj with
      | 0, _ => rfl
      | 1, _ => rfl
      | 2, _ => rfl
      | 3, _ => rfl
    · obtain rfl : i = 1 := by omega
      rw [← hv]
      match j, hj with
      | 0, _ => rfl
      | 1, _ => rfl
      | 2, _ => rfl
      | 3, _ => rfl⟩⟩
  have hpl := fun c => qplace_ok (some ⟨w.heap.size, 0, none⟩) c 2 wkL id W1 hbl (by decide) wk_ok wk_ord
  rw [wk_pk] at hpl
  have HPL := Lib.hid hpl
  have HB1 := Lib.hid hb1
  clear hpl hbl hbx hb1 hs1
  go_upto_region 1 with fail
  try rw [hW1]
  go_upto_region 2 with (go_at_call 8; refine (HPL.out _).mono ?_; rintro e w5 ⟨p, cp, rfl, hf⟩; have hx := (flat_four (PS wkL id 2) (show 1 < 2 by decide)).2.2.2; rw [wk_pl] at hx; have hc := hf.c 0 _ rfl hx; have HB5 := Lib.hid (HB1.out.trans (hf.bel.mono HB1.out.size)); clear hx hf HB1 HPL)
  go_wp2_with (go_at_call 9; refine (num23_any _ _).mono ?_; rintro e w6 ⟨rfl, rfl⟩)
  go_ret
  exact ⟨rfl, HB5.out⟩
end Go.Proofs.Ytdpnichgdfpmgaa
