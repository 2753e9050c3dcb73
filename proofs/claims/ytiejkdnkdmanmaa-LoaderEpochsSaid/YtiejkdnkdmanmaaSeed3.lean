/- Walks: the reference's Shuffle. -/
import Derived.Test.YtiejkdnkdmanmaaSeed2
import Derived.Test.YtiejkdnkdmanmaaRngB24
set_option linter.unusedVariables false
set_option linter.unusedSimpArgs false
namespace Go.Proofs.Ytiejkdnkdmanmaa
open Go.RowKit Go.Rt
theorem lst4 {α : Type} {l : List α} (h : l.length = 4) : ∃ x0 x1 x2 x3, l = [x0, x1, x2, x3] := by
  match l, h with
  | [x0, x1, x2, x3], _ => exact ⟨x0, x1, x2, x3, rfl⟩

/-- Where the reference's shuffle stands. -/
structure ShuRf (hi0 : Nat) (w wr : World) (g cap : Nat) (l : List Int) (a : Option Addr) (c : Nat) (xs : List Int) (s : St) : Prop where
  row : wr.ownsRow (w.heap.size + 2) 3 1 (.slice (some ⟨g, 0, none⟩) l.length cap) l.length (l.map (Value.int .i64))
  box : Box5 wr w.heap.size (.slice a xs.length c) (.int .u64 (s.a : Nat)) (.int .u64 (s.b : Nat)) (.int .u64 (s.c : Nat)) (.int .u64 (s.d : Nat))
  res : Box5 wr (w.heap.size + 1) (.slice none 0 0) (.int .u64 0) (.int .u64 0) (.int .u64 0) (.int .u64 0)
  script : Ints .u64 wr hi0 a xs
  hh : hi0 ≤ w.heap.size
  cap : xs.length ≤ c ∧ c ≤ 9223372036854775807
  bel : Below w.heap.size w wr
  ord : w.heap.size + 2 ≤ g ∧ g < wr.heap.size
theorem ShuRf.grown {hi0 : Nat} {w wr wr' : World} {g cap : Nat} {l : List Int} {a : Option Addr} {c : Nat} {xs : List Int} {s : St} {row : Option Nat} (h : ShuRf hi0 w wr g cap l a c xs s) (hg : wr.grownBy wr' row) (hr : ∀ r, row = some r → wr.heap.size ≤ r) : ShuRf hi0 w wr' g cap l a c xs s := by
  obtain ⟨o1, o2⟩ := h.ord
  have hs2 := hg.size
  have hne : ∀ b, b < wr.heap.size → some b ≠ row := fun b hb e => by have := hr b e.symm; omega
  exact ⟨h.row.kept hg (.inr (fun e => by have := hr g e.symm; omega)), h.box.grown hg (by omega) (hne _ (by omega)), h.res.grown hg (by omega) (hne _ (by omega)), Ints.grown h.script hg (by have := h.hh; omega) (fun r e => by have := hr r e; have := h.hh; omega), h.hh, h.cap, below_grown h.bel (by omega) hg (fun r e => by have := hr r e; omega), o1, by omega⟩
theorem ShuRf.put {hi0 : Nat} {w wr : World} {g cap : Nat} {l : List Int} {a : Option Addr} {c : Nat} {xs : List Int} {s : St} (h : ShuRf hi0 w wr g cap l a c xs s) (j : Nat) (x : Int) : ShuRf hi0 w (wr.setCell ⟨g, j, none⟩ (.int .i64 x)) g cap (l.set j x) a c xs s := by
  obtain ⟨o1, o2⟩ := h.ord
  obtain ⟨h1, hg⟩ := h.row.stored j (.int .i64 x)
  have hs2 := hg.size
  have hne : ∀ b, b ≠ g → some b ≠ some g := fun b hb e => hb (by injection e)
  refine ⟨?_, h.box.grown hg (by omega) (hne _ (by omega)), h.res.grown hg (by omega) (hne _ (by omega)), Ints.grown h.script hg (by have := h.hh; omega) (fun r e => by injection e; have := h.hh; omega), h.hh, h.cap, below_grown h.bel (by omega) hg (fun r e => by injection e; omega), o1, by omega⟩
  rw [List.length_set, List.map_set]; exact h1
theorem ShuRf.set {hi0 : Nat} {w wr : World} {g cap : Nat} {l : List Int} {a : Option Addr} {c : Nat} {xs : List Int} {s : St} (h : ShuRf hi0 w wr g cap l a c xs s) (a' : Option Addr) (c' : Nat) (xs' : List Int) (s' : St) (hI : Ints .u64 wr hi0 a' xs') (hc : xs'.length ≤ c' ∧ c' ≤ 9223372036854775807) :
    ShuRf hi0 w (set5 wr w.heap.size (.slice a' xs'.length c') (.int .u64 (s'.a : Nat)) (.int .u64 (s'.b : Nat)) (.int .u64 (s'.c : Nat)) (.int .u64 (s'.d : Nat))) g cap l a' c' xs' s' := by
  obtain ⟨o1, o2⟩ := h.ord
  have hg := grown_set5 wr w.heap.size (.slice a' xs'.length c') (.int .u64 (s'.a : Nat)) (.int .u64 (s'.b : Nat)) (.int .u64 (s'.c : Nat)) (.int .u64 (s'.d : Nat))
  have hs2 := hg.size
  have hne : ∀ b, b ≠ w.heap.size → some b ≠ some w.heap.size := fun b hb e => hb (by injection e)
  exact ⟨h.row.kept hg (.inr (fun e => (hne g (by omega)) e)), h.box.set _ _ _ _ _, h.res.grown hg (by omega) (hne _ (by omega)), Ints.grown hI hg (by have := h.hh; omega) (fun r e => by injection e; have := h.hh; omega), h.hh, hc, below_grown h.bel (by omega) hg (fun r e => by injection e; omega), o1, by omega⟩
theorem ShuRf.at {hi0 : Nat} {w wr : World} {g cap : Nat} {l : List Int} {a : Option Addr} {c : Nat} {xs : List Int} {s : St} (h : ShuRf hi0 w wr g cap l a c xs s) {j : Nat} (hj : j < l.length) : wr.cell? ⟨g, j, none⟩ = some (.int .i64 (l[j]?.getD 0)) ∧ wr.frozen? ⟨g, j, none⟩ = false :=
  ⟨own_cell h.row hj, h.row.frozenAt j⟩
theorem int_eq {a b : Int} (h : a = b) : Value.int .i64 a = .int .i64 b := by rw [h]
theorem b24_told (hi0 : Nat) (a : Option Addr) (c : Nat) (s : St) (xs : List Int) (n : Int) (w : World) (hs : GoodS xs s) (hhi : hi0 ≤ w.heap.size) (hi : Ints .u64 w hi0 a xs) (hc : xs.length ≤ c) (hc2 : c ≤ 9223372036854775807) (h1 : 1 ≤ n) (h2 : n ≤ 18446744073709551615) :
    Calls Try.prog 20 #[.agg #[.slice a xs.length c, .int .u64 (s.a : Nat), .int .u64 (s.b : Nat), .int .u64 (s.c : Nat), .int .u64 (s.d : Nat)], .int .u64 n] w (RetRand w hi0 (drD n xs s) (drL n xs s) (drS n xs s)) :=
  below24_at a c hi0 s xs n (kOf n xs s) w hs hhi hi hc hc2 h1 h2 (kOf_spec hs h1 h2).1 (kOf_spec hs h1 h2).2
/-- What the reference's Shuffle hands back. -/
def RetShuR (hi0 : Nat) (w : World) (l : List Int) (xs : List Int) (s : St) (e : Ending) (w' : World) : Prop :=
  ∃ a c a2 c2, e = .returned (.tuple #[.slice a l.length c, .agg #[.slice a2 xs.length c2, .int .u64 (s.a : Nat), .int .u64 (s.b : Nat), .int .u64 (s.c : Nat), .int .u64 (s.d : Nat)]]) ∧ w'.ownsRow w.heap.size 3 1 (.slice a l.length c) l.length (l.map (Value.int .i64)) ∧
    Ints .u64 w' hi0 a2 xs ∧ xs.length ≤ c2 ∧ c2 ≤ 9223372036854775807 ∧ Below w.heap.size w w'

set_option maxRecDepth 100000 in
set_option maxHeartbeats 2000000 in
theorem rshuffle_any (a : Option Addr) (c : Nat) (xs : List Int) (s : St) (N : Nat) (w : World) (hs : GoodS xs s) (hi0 : Nat) (hh : hi0 ≤ w.heap.size) (hi : Ints .u64 w hi0 a xs) (hc : xs.length ≤ c) (hc2 : c ≤ 9223372036854775807) (hN : N + 1 ≤ 65536) :
    Calls Try.prog 82 #[.agg #[.slice a xs.length c, .int .u64 (s.a : Nat), .int .u64 (s.b : Nat), .int .u64 (s.c : Nat), .int .u64 (s.d : Nat)], .int .i64 ((N + 1 : Nat) : Int)] w (RetShuR hi0 w (lst N xs s N) (tur N xs s N).1 (tur N xs s N).2) := by
  obtain ⟨m, hm⟩ : ∃ m, N + 1 = m := ⟨_, rfl⟩
  rw [hm]
  have hm1 : 1 ≤ m := by omega
  have hm2 : m ≤ 65536 := by omega
  have HM := Lib.hid hm
  have HS := Lib.hid hs
  have HI := Lib.hid hi
  clear hm hs hi
  go_enter Try.func82, Try.ntmps82
  go_wp2
  go_loopw [6, 7] (fun v i wr => ∃ k : Nat, k ≤ m ∧ i = .int .i64 k ∧ wr.ownsRow (w.heap.size + 2) 3 1 v k (((List.range k).map fun k : Nat => (k : Int)).map (Value.int .i64)) ∧ Below (w.heap.size + 2) ((w.alloc (.cells #[.slice a xs.length c, .int .u64 (s.a : Nat), .int .u64 (s.b : Nat), .int .u64 (s.c : Nat), .int .u64 (s.d : Nat)] 27)).alloc (.cells #[.slice none 0 0, .int .u64 0, .int .u64 0, .int .u64 0, .int .u64 0] 27)) wr) (fun _ i _ => m - (intOf i).toNat)
  case atStart => exact ⟨0, Nat.zero_le _, rfl, World.ownsRow_nil _ _ _ _, Below.refl _ _⟩
  case round =>
    obtain ⟨k, hk, rfl, hown, hbel⟩ := hrel
    by_cases hlt : k < m
    · have HO := Lib.hid hown
      have HB := Lib.hid hbel
      have hsz := hbel.size
      simp only [World.size_alloc] at hsz
      clear hown hbel
      go_wp2_with (at_builtin; (refine wpl_append1 46 3 .i64 infoInt Try.underlying46 (w.heap.size + 2) _ k ((List.range k).map fun k : Nat => (k : Int)) (k : Int) _ _ _ rfl rfl rfl HO.out rfl (by omega) (by omega) ?_); intro v' w1 hown1 hbel1 _)
      have HO1 := Lib.hid hown1
      have HB1 := Lib.hid (hbel1 _ _ (Nat.le_refl _) HB.out)
      clear hown1 hbel1
      go_roundw
      case rel => exact ⟨k + 1, by omega, by go_num, by rw [List.range_succ, List.map_append]; exact HO1.out, HB1.out⟩
      case measure => simp [intOf]; omega
    · obtain rfl : k = m := by omega
      have hsz := hbel.size
      simp only [World.size_alloc] at hsz
      obtain ⟨a1, cap, rfl, hsh⟩ := own_shape hown
      obtain ⟨g, rfl, hg1, hg2⟩ := hsh.resolve_left (by omega)
      have hBW : Below w.heap.size w wr := Below.trans (b := (w.alloc (.cells #[.slice a xs.length c, .int .u64 (s.a : Nat), .int .u64 (s.b : Nat), .int .u64 (s.c : Nat), .int .u64 (s.d : Nat)] 27)).alloc (.cells #[.slice none 0 0, .int .u64 0, .int .u64 0, .int .u64 0, .int .u64 0] 27)) (((Below.refl _ _).alloc (Nat.le_refl _) _).alloc (by simp) _) (hbel.mono (by omega))
      have HA : Hid (ShuRf hi0 w wr g cap ((List.range k).map fun k : Nat => (k : Int)) a c xs s) := Lib.hid (by
        refine ⟨by simpa using hown, Box5.below (w := _) ?_ hbel (by omega), Box5.below (w := _) ?_ hbel (by omega), HI.out.below hBW hh, hh, ⟨hc, hc2⟩, hBW, hg1, hg2⟩
        · constructor <;> go_simp
        · constructor <;> go_simp)
      clear hown hbel hBW
      have e0 : ∀ [Inhabited Unit], RowKit.wrap64 ((k : Int) - 1) = (N : Int) := by intro _; have := HM.out; rw [IntWalk.wrap64_in _ ⟨by omega, by omega⟩]; omega
      have hl0 : lst N xs s 0 = (List.range k).map fun k : Nat => (k : Int) := by rw [← HM.out]; rfl
      rw [← hl0] at HA
      have HL0 := Lib.hid hl0
      clear hl0
      go_wp2
      go_loopw [8] (fun i wr => ∃ m j : Nat, m + j = N ∧ i = .int .i64 m ∧ ∃ a c, Hid (ShuRf hi0 w wr g cap (lst N xs s j) a c (tur N xs s j).1 (tur N xs s j).2)) (fun i _ => (intOf i).toNat)
      case atStart => exact ⟨N, 0, rfl, by have := HM.out; exact int_eq (by omega), a, c, HA⟩
      case round =>
        clear HA e0
        obtain ⟨m, j, hmj, rfl, a0, c0, HA⟩ := hrel
        by_cases hm : 1 ≤ m
        · have hmi : (1 : Int) ≤ (m : Int) := by omega
          have hG := tur_good (N := N) HS.out j
          have e1 : N - j + 1 = m + 1 := by omega
          have e2 : N - j = m := by omega
          have HT : Hid (tur N xs s (j + 1) = (drL ((m + 1 : Nat) : Int) (tur N xs s j).1 (tur N xs s j).2, drS ((m + 1 : Nat) : Int) (tur N xs s j).1 (tur N xs s j).2)) := Lib.hid (by rw [tur, e1])
          have HLS : Hid (lst N xs s (j + 1) = swapI (lst N xs s j) m (drD ((m + 1 : Nat) : Int) (tur N xs s j).1 (tur N xs s j).2).toNat) := Lib.hid (by rw [lst, turD, e1, e2])
          have HLL := lst_len N xs s j
          have hDb := drD_bounds (n := ((m + 1 : Nat) : Int)) (xs := (tur N xs s j).1) (s := (tur N xs s j).2) (by omega)
          obtain ⟨L, hL⟩ : ∃ y, (tur N xs s j).1 = y := ⟨_, rfl⟩
          obtain ⟨T, hT⟩ : ∃ y, (tur N xs s j).2 = y := ⟨_, rfl⟩
          obtain ⟨Z, hZ⟩ : ∃ y, lst N xs s j = y := ⟨_, rfl⟩
          rw [hL, hT] at HT HLS hG HA hDb
          rw [hZ] at HA HLS HLL
          have hord := HA.out.ord
          have hcall := b24_told hi0 a0 c0 T L ((m + 1 : Nat) : Int) wr hG (by omega) HA.out.script HA.out.cap.1 HA.out.cap.2 (by omega) (by omega)
          obtain ⟨X, hX⟩ : ∃ y : Nat, drD ((m + 1 : Nat) : Int) L T = (y : Int) := ⟨(drD ((m + 1 : Nat) : Int) L T).toNat, by omega⟩
          obtain ⟨L1, hL1⟩ : ∃ y, drL ((m + 1 : Nat) : Int) L T = y := ⟨_, rfl⟩
          obtain ⟨T1, hT1⟩ : ∃ y, drS ((m + 1 : Nat) : Int) L T = y := ⟨_, rfl⟩
          rw [hX, hL1, hT1, show ((m + 1 : Nat) : Int) = (m : Int) + 1 by omega] at hcall
          rw [hX, Int.toNat_natCast] at HLS
          rw [hX] at hDb
          rw [hL1, hT1] at HT
          have hxm : X ≤ m := by omega
          have hmB : m ≤ 65536 := by omega
          have hZm : m < Z.length := by omega
          have hZX : X < Z.length := by omega
          have HCALL := Lib.hid hcall
          have HMJ := Lib.hid hmj
          have e3 : ∀ [Inhabited Unit], IntKind.u64.wrap ((m : Int) + 1) = (m : Int) + 1 := by intro _; rw [wrap_u64]; omega
          have hbx := HA.out.box
          obtain ⟨c0_, c1_, c2_, c3_, c4_, _, _, _, _, _⟩ := hbx
          obtain ⟨Lm, hLm⟩ : ∃ y, Z[m]?.getD 0 = y := ⟨_, rfl⟩
          obtain ⟨LX, hLX⟩ : ∃ y, Z[X]?.getD 0 = y := ⟨_, rfl⟩
          have HSW : Hid (swapI Z m X = (Z.set m LX).set X Lm) := Lib.hid (by unfold swapI; rw [hLm, hLX])
          have HLm := Lib.hid hLm
          have HLX := Lib.hid hLX
          have HZL := Lib.hid HLL
          have hmk : m < k := by have := HM.out; omega
          have hXk : X < k := by have := HM.out; omega
          clear hL hT hX hL1 hT1 hZ hG hcall hmj hDb e1 e2 hLm hLX HLL
          go_wp2_with (go_at_call 20; (with_reducible refine HCALL.out.mono ?_); rintro e w1 ⟨a1, cc1, rfl, hI1, hl1, hcm1, hb1⟩; have HA1 := Lib.hid (HA.out.grown (row := none) ⟨hb1.os, hb1.tape, hb1.output, hb1.size, fun j hj _ => hb1.block j hj⟩ (fun r e => by cases e)); have HA2 := Lib.hid (HA1.out.set a1 cc1 L1 T1 hI1 ⟨hl1, hcm1⟩); obtain ⟨k0, k1, k2, k3, k4, f0, f1, f2, f3, f4⟩ := HA1.out.box; have hx1 := (HA2.out.at hZm); rw [HLm.out] at hx1; have hx2 := (HA2.out.at hZX); rw [HLX.out] at hx2; obtain ⟨x1, y1⟩ := hx1; obtain ⟨x2, y2⟩ := hx2; have HA3 := Lib.hid ((HA2.out.put m LX).put X Lm); have hx3 := ((HA2.out.put m LX).at (j := X) (by rw [List.length_set]; exact hZX)); obtain ⟨x3, y3⟩ := hx3; simp only [set5] at x1 y1 x2 y2 x3 y3; clear hI1 hb1)
          clear x1 y1 x2 y2 x3 y3 k0 k1 k2 k3 k4 f0 f1 f2 f3 f4 c0_ c1_ c2_ c3_ c4_ e3
          have hmj := HMJ.out
          have g1 : m - 1 + (j + 1) = N := by omega
          have g2 : (m : Int) - 1 = ((m - 1 : Nat) : Int) := by omega
          refine ⟨⟨m - 1, j + 1, g1, int_eq g2, a1, cc1, ?_⟩, by simp [intOf]; omega⟩
          rw [HT.out, HLS.out, HSW.out]
          exact HA3
        · obtain rfl : m = 0 := by omega
          obtain rfl : j = N := by omega
          rw [show ((0 : Nat) : Int) = 0 from rfl]
          have hLL := lst_len j xs s j
          obtain ⟨Z, hZ⟩ : ∃ y, lst j xs s j = y := ⟨_, rfl⟩
          obtain ⟨L, hL⟩ : ∃ y, (tur j xs s j).1 = y := ⟨_, rfl⟩
          obtain ⟨T, hT⟩ : ∃ y, (tur j xs s j).2 = y := ⟨_, rfl⟩
          rw [hL, hT, hZ] at HA
          rw [hZ] at hLL
          have HZE := Lib.hid hZ
          have HLE := Lib.hid hL
          have HTE := Lib.hid hT
          have HZL : Hid (Z.length = k) := Lib.hid (by have := HM.out; omega)
          have hord := HA.out.ord
          have HBX := Lib.hid HA.out.box
          have HRS := Lib.hid HA.out.res
          clear hLL hZ hL hT hm hmj
          go_upto_region 14 with fail
          refine wp_region_parts2 (w := wr) 3 1 none [] [(fun u _ => u = .slice (some ⟨g, 0, none⟩) k cap), (fun u _ => u = .agg #[.slice a0 L.length c0, .int .u64 (T.a : Nat), .int .u64 (T.b : Nat), .int .u64 (T.c : Nat), .int .u64 (T.d : Nat)]), (fun u _ => u = .slice (some ⟨g, 0, none⟩) k cap)] [some 49, some 50, some 4, none] #[true, true, true, false] #[true, true, true, false] (by kernel_rfl) rfl (by kernel_rfl) (by kernel_rfl) rfl (by kernel_rfl) (by kernel_rfl) (.cons (carries_eq _) (.cons (carries_eq _) (.cons (carries_eq _) .nil))) (fun vs b hvl hvb => ?_)
          obtain ⟨x0, x1, x2, x3, rfl⟩ : ∃ x0 x1 x2 x3, vs = [x0, x1, x2, x3] := lst4 hvl
          clear hvl
          simp only [putAll, Act.put, List.setIfInBounds_toArray, List.set_cons_zero, List.set_cons_succ] at hvb
          subst hvb
          refine ⟨(.snoc (.snoc (.snoc .zero (PartOb.intro (d := (some 49)) (r := fun u _ => u = .slice (some ⟨g, 0, none⟩) k cap) rfl rfl rfl rfl ?po14x0)) (PartOb.intro (d := (some 50)) (r := fun u _ => u = .agg #[.slice a0 L.length c0, .int .u64 (T.a : Nat), .int .u64 (T.b : Nat), .int .u64 (T.c : Nat), .int .u64 (T.d : Nat)]) rfl rfl rfl rfl ?po14x1)) (PartOb.intro (d := (some 4)) (r := fun u _ => u = .slice (some ⟨g, 0, none⟩) k cap) rfl rfl rfl rfl ?po14x2)), ?pend14, ?pfl14⟩
          case po14x0 =>
            intro w1 hb1 hd KK hK
            clear hd
            simp only [Act.put, List.setIfInBounds_toArray, List.set_cons_zero, List.set_cons_succ] at hK
            go_simp
            first | exact hK.out _ _ (Below.refl _ _) rfl | (have hk := hK.out _ _ (Below.refl _ _) rfl; revert hk; go_simp)
          case po14x1 =>
            intro w1 hb1 hd KK hK
            clear hd
            have hbx := HBX.out.below hb1 (by omega)
            obtain ⟨c0_, c1_, c2_, c3_, c4_, _, _, _, _, _⟩ := hbx
            simp only [Act.put, List.setIfInBounds_toArray, List.set_cons_zero, List.set_cons_succ] at hK
            go_simp
            first | exact hK.out _ _ (Below.refl _ _) rfl | (have hk := hK.out _ _ (Below.refl _ _) rfl; revert hk; go_simp)
          case po14x2 =>
            intro w1 hb1 hd KK hK
            have d0 : x0 = .slice (some ⟨g, 0, none⟩) k cap := hd 0 (by kernel_rfl)
            clear hd
            subst d0
            simp only [Act.put, List.setIfInBounds_toArray, List.set_cons_zero, List.set_cons_succ] at hK
            go_simp
            first | exact hK.out _ _ (Below.refl _ _) rfl | (have hk := hK.out _ _ (Below.refl _ _) rfl; revert hk; go_simp)
          case pfl14 => (intro f hf; cases hf)
          case pend14 =>
          intro w1 hb1 hR hD
          have d0 : x0 = .slice (some ⟨g, 0, none⟩) k cap := hR 0 (by decide)
          have d1 : x1 = .agg #[.slice a0 L.length c0, .int .u64 (T.a : Nat), .int .u64 (T.b : Nat), .int .u64 (T.c : Nat), .int .u64 (T.d : Nat)] := hR 1 (by decide)
          have d2 : x2 = .slice (some ⟨g, 0, none⟩) k cap := hR 2 (by decide)
          clear hR hD
          subst d0
          subst d1
          subst d2
          refine wpAny_ready (rs := [3]) (by kernel_rfl) (by simp) (AllReady.cons rfl (fun KK hK => ?_) AllReady.nil)
          have hrs := HRS.out.below hb1 (by omega)
          have HRX := Lib.hid hrs
          obtain ⟨q0, q1, q2, q3, q4, f0, f1, f2, f3, f4⟩ := hrs
          go_simp
          refine hK _ _ ?_
          clear hK KK
          try simp only [putAll, Act.put, List.setIfInBounds_toArray, List.set_cons_zero, List.set_cons_succ]
          refine wpAny_done (by kernel_rfl) ?_ _
          go_wp2
          have hg1 := grown_set5 w1 (w.heap.size + 1) (.slice a0 L.length c0) (.int .u64 (T.a : Nat)) (.int .u64 (T.b : Nat)) (.int .u64 (T.c : Nat)) (.int .u64 (T.d : Nat))
          have hUb := HRX.out.set (.slice a0 L.length c0) (.int .u64 (T.a : Nat)) (.int .u64 (T.b : Nat)) (.int .u64 (T.c : Nat)) (.int .u64 (T.d : Nat))
          have hA1 := HA.out.grown (row := none) ⟨hb1.os, hb1.tape, hb1.output, hb1.size, fun j hj _ => hb1.block j hj⟩ (fun r e => by cases e)
          have ho1 := hA1.ord
          have hrow := own_mono (row_kept hA1.row hg1 (by omega)) (base' := w.heap.size) (by omega)
          have hI := Ints.grown hA1.script hg1 (by have := hA1.hh; omega) (fun r e => by injection e; have := hA1.hh; omega)
          have hbel := below_grown hA1.bel (by omega) hg1 (fun r e => by injection e; omega)
          simp only [set5] at hUb hrow hI hbel
          obtain ⟨u0, u1, u2, u3, u4, _, _, _, _, _⟩ := hUb
          have hpost : RetShuR hi0 w Z L T (.returned (.tuple #[.slice (some ⟨g, 0, none⟩) k cap, .agg #[.slice a0 L.length c0, .int .u64 (T.a : Nat), .int .u64 (T.b : Nat), .int .u64 (T.c : Nat), .int .u64 (T.d : Nat)]])) _ := ⟨some ⟨g, 0, none⟩, cap, a0, c0, by rw [HZL.out], hrow, hI, hA1.cap.1, hA1.cap.2, hbel⟩
          refine bodyPost_ret (v := .tuple #[.slice (some ⟨g, 0, none⟩) k cap, .agg #[.slice a0 L.length c0, .int .u64 (T.a : Nat), .int .u64 (T.b : Nat), .int .u64 (T.c : Nat), .int .u64 (T.d : Nat)]]) ?_ rfl (by rw [HZE.out, HLE.out, HTE.out]; exact hpost)
          rw [results_tc rfl]
          go_simp
end Go.Proofs.Ytiejkdnkdmanmaa
