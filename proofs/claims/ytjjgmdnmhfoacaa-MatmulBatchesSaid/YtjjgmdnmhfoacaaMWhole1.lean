/- A tensor's words as whole numbers (ratchetlaw10.whole), walked. -/
import Derived.Test.YtjjgmdnmhfoacaaMWholeP
import Derived.Test.YtjjgmdnmhfoacaaMArg
import Derived.WalkMore
import Derived.Deep.RegionHeld3
import Derived.Deep.RegionWith
import Derived.BigRegion
import Derived.Deep.Cut
import Derived.Deep.CutBlock
import Derived.Deep.CutRange
set_option linter.unusedVariables false
set_option linter.unusedSimpArgs false
namespace Go.Proofs.Ytjjgmdnmhfoacaa
open Go.RowKit Go.Rt

theorem ints_setOther {k : IntKind} {w : World} {hi : Nat} {a : Option Addr} {xs : List Int} {q o : Nat} {v v' : Value} (h : Ints k w hi a xs) (hc : w.cell? ⟨q, o, none⟩ = some v) (hv : ∀ x, v ≠ .int k x) : Ints k (w.setCell ⟨q, o, none⟩ v') hi a xs :=
  ⟨h.len, h.wf, fun i hi' => by
    obtain ⟨b, off, ha, hlt, hb⟩ := h.cell i hi'
    refine ⟨b, off, ha, hlt, ?_⟩
    rw [← hb]
    have hn : ¬ (b = q ∧ off + i = o) := by
      rintro ⟨h1, h2⟩
      subst h1 h2
      rw [hc] at hb
      cases hb
      exact hv _ rfl
    by_cases hq : b = q
    · have h2 : ¬ off + i = o := fun h => hn ⟨hq, h⟩
      go_simp
    · go_simp⟩

theorem retT_fill {w W wr : World} {q mid Q g d N c1 : Nat} {a1 : Option Addr} {S ys : List Int} {v0 v1 u0 u1 x y : Value}
    (hcap : Hid (S.length ≤ c1 ∧ c1 ≤ 9223372036854775807)) (hl : ys.length = N)
    (hF : Hid (Fill W wr mid Q g d N v0 v1 ys)) (hI : Hid (Ints .i64 W mid a1 S)) (hX : Box2 wr q u0 u1) (h0 : ∀ z, u0 ≠ .int .i64 z) (h1 : ∀ z, u1 ≠ .int .i64 z) (hqm : q < mid) (hwm : w.heap.size ≤ mid) (hwq : w.heap.size ≤ q)
    (hb : Hid (Below w.heap.size w wr)) :
    RetT w S ys (.returned (.agg #[.slice a1 S.length c1, .slice (some ⟨g, 0, none⟩) N d])) ((wr.setCell ⟨q, 0, none⟩ x).setCell ⟨q, 1, none⟩ y) := by
  have hlt := hF.out.lt
  subst hl
  refine ⟨a1, c1, some ⟨g, 0, none⟩, d, mid, rfl, hwm, by simp; omega, ?_, hcap.out, ?_, ?_⟩
  · refine ints_setOther (ints_setOther (hI.out.below hF.out.bel (Nat.le_refl _)) hX.c0 h0) ?_ h1

    obtain ⟨c0, c1, f0, f1⟩ := hX
    go_simp
  · exact ownsRow_setCell_below (ownsRow_setCell_below hF.out.row hqm _) hqm _
  · exact (hb.out.setCell hwq _).setCell hwq _

set_option maxHeartbeats 2000000 in
set_option maxRecDepth 100000 in
theorem whole_any (a b : Option Addr) (c d : Nat) (xs ys : List Int) (w : World) (h : Ten w w.heap.size a c b d xs ys) (hx : xs.length ≤ 8) (hy : ys.length ≤ 40) (hy1 : 1 ≤ ys.length) (hw : ∀ y ∈ ys, isW y = true) :
    Calls Try.prog 20 #[.agg #[.slice a xs.length c, .slice b ys.length d]] w (RetT w xs (up8 (rest3 ys))) := by
  have hCp := fun W (hb : Below w.heap.size w W) => Lib.hid (copyTensor_any a b c d xs ys W (h.next hb) (by omega) (by omega))
  have HW := Lib.hid hw
  clear hw
  go_enter Try.func20, Try.ntmps20
  go_upto_region 2 with (go_at_call 18; refine (hCp _ (by (repeat' (first | exact Below.refl _ _ | refine below_drewN ?_ _ | refine Below.drew ?_ | refine Below.setCell ?_ (by first | omega | (simp <;> omega)) _ | refine Below.alloc ?_ (by first | omega | (simp <;> omega)) _)))).out.mono ?_; rintro e w7 ⟨a7, c7, b7, d7, m7, rfl, hm0, hm, hI, hcap, hO, hb⟩; have X := Box2.below (b := w.heap.size + 1) (v0 := .slice none 0 0) (v1 := .slice none 0 0) (by constructor <;> go_simp) hb (by first | omega | (simp <;> omega)); have hbw : Below w.heap.size w w7 := Below.trans (by (repeat' (first | exact Below.refl _ _ | refine below_drewN ?_ _ | refine Below.drew ?_ | refine Below.setCell ?_ (by first | omega | (simp <;> omega)) _ | refine Below.alloc ?_ (by first | omega | (simp <;> omega)) _))) (hb.mono (by first | omega | (simp <;> omega))); have hsz := hb.size; (try simp at hm0 hsz); clear hb hCp)
  obtain ⟨g7, hg7, hmg, hQ7, hF7⟩ := fill_start (a := a7) (c := c7) (xs := xs) hO hy1 26
  subst hg7
  obtain ⟨V7, hV7⟩ : ∃ V : World, w7.alloc (.cells #[.slice a7 xs.length c7, .slice (some ⟨g7, 0, none⟩) ys.length d7] 26) = V := ⟨_, rfl⟩
  have b7V : Below w7.heap.size w7 V7 := by rw [← hV7]; exact (Below.refl _ _).alloc (Nat.le_refl _) _
  have HI7 := Lib.hid (hI.below b7V hm)
  have HCAP := Lib.hid hcap
  have HBV := Lib.hid (hbw.trans (b7V.mono (by omega)))
  replace X := X.below b7V (by omega)
  have HX := Lib.hid X
  rw [hV7] at hF7 ⊢
  obtain ⟨fn, hfn⟩ : ∃ fn : Nat → Int, (fun j => Int.tmod (ys[j]?.getD 0) 3 * 256) = fn := ⟨_, rfl⟩
  have HFN := Lib.hid hfn
  have HF0 : Hid (Fill V7 V7 m7 w7.heap.size g7 d7 ys.length (.slice a7 xs.length c7) (.slice (some ⟨g7, 0, none⟩) ys.length d7) (mixL fn ys 0)) := Lib.hid (by rw [mixL_zero]; exact hF7)
  clear hV7 b7V hO hI hcap hF7 hfn h X hbw
  generalize w7.heap.size = Q7 at *
  go_wp2_with fail
  go_loopw [4] (fun i wr => ∃ j : Nat, j ≤ ys.length ∧ i = .int .i64 j ∧ Hid (Fill V7 wr m7 Q7 g7 d7 ys.length (.slice a7 xs.length c7) (.slice (some ⟨g7, 0, none⟩) ys.length d7) (mixL fn ys j))) (fun i _ => ys.length - (intOf i).toNat)
  case atStart => exact ⟨0, Nat.zero_le _, rfl, HF0⟩
  case round =>
    obtain ⟨j, hj, rfl, HF⟩ := hrel
    obtain ⟨wi, rfl⟩ : ∃ wi : World, wi = wr := ⟨_, rfl⟩
    obtain ⟨t0, t1, t2, t3⟩ := HF.out.box
    clear HF0
    by_cases hjl : j < ys.length
    · obtain ⟨fc1, fc2⟩ := HF.out.cell j hjl
      rw [mixL_get _ _ _ hjl, List.getElem?_eq_getElem hjl] at fc1
      simp only [Option.getD_some] at fc1
      have hfj : fn j = Int.tmod ys[j] 3 * 256 := by rw [← HFN.out]; show Int.tmod (ys[j]?.getD 0) 3 * 256 = _; rw [List.getElem?_eq_getElem hjl]; rfl
      have HF8 := Lib.hid ((HF.out.set j (fn j) hQ7).next (below_drewN (Below.refl _ _) 1))
      rw [mixL_set, hfj] at HF8
      have hbd := rest3_bd [ys[j]] _ (by simp [rest3]; rfl)
      generalize ys[j] = y at *
      have e1 : RowKit.wrap64 (Int.tmod y 3 * 256) = Int.tmod y 3 * 256 := IntWalk.wrap64_in _ ⟨by omega, by omega⟩
      have e2 : IntKind.i64.wrap (Int.tmod y 3 * 256) = Int.tmod y 3 * 256 := by rw [IntWalk.i64_left]; exact e1
      have e3 : RowKit.wrap64 (Int.tmod y 3) = Int.tmod y 3 := IntWalk.wrap64_in _ ⟨by omega, by omega⟩
      have e4 : IntKind.i64.wrap (Int.tmod y 3) = Int.tmod y 3 := by rw [IntWalk.i64_left]; exact e3
      clear hfj HF
      go_upto_region 5 with fail
      go_region
      all_goals
        go_wp2
        go_roundw
        case rel => exact ⟨j + 1, by omega, by go_num, HF8⟩
        case measure => simp [intOf]; omega
    · have hje : j = ys.length := by omega
      subst hje
      have XE := HX.out.below HF.out.bel (by omega)
      obtain ⟨x0, x1, x2, x3⟩ := XE
      go_wp2_with fail
      (try simp only [Exit.noGoto, Exit.inBlock, Exit.then])
      have hfull : mixL fn ys ys.length = up8 (rest3 ys) := by
        rw [mixL_full, ← HFN.out, map_range_get ys (fun x => Int.tmod x 3 * 256)]; unfold up8 rest3; rw [List.map_map]; rfl
      rw [hfull] at HF
      refine bodyPost_ret (v := .agg #[.slice a7 xs.length c7, .slice (some ⟨g7, 0, none⟩) ys.length d7]) (by rw [results_c1 rfl]; go_simp) rfl ?_
      refine retT_fill HCAP (by rw [up8_len, rest3_len]) HF HI7 ⟨x0, x1, x2, x3⟩ (by intro z h; cases h) (by intro z h; cases h) (by omega) (by omega) (by omega) (Lib.hid (HBV.out.trans (HF.out.bel.mono (by omega))))
end Go.Proofs.Ytjjgmdnmhfoacaa
