/- The law RngFair, walked. -/
import Derived.Test.YtiejkdnkdmanmaaRngW9
set_option linter.unusedVariables false
set_option linter.unusedSimpArgs false
namespace Go.Proofs.Ytiejkdnkdmanmaa
open Go.RowKit Go.Rt

/-- The script of the law's own generator. -/
def fairL (Q : Int) (n : Nat) : List Int := (List.range n).map (fun i : Nat => (i : Int) + Q)
theorem fairL_succ (Q : Int) (n : Nat) : fairL Q (n + 1) = fairL Q n ++ [(n : Int) + Q] := by simp [fairL, List.range_succ]
theorem fairL_len (Q : Int) (n : Nat) : (fairL Q n).length = n := by simp [fairL]
theorem fairL_drop {Q : Int} {n k : Nat} (h : k < n) : (fairL Q n).drop k = ((k : Int) + Q) :: (fairL Q n).drop (k + 1) := by
  rw [List.drop_eq_getElem_cons (by rw [fairL_len]; exact h)]
  simp [fairL]
theorem fairL_bounds {Q : Int} {n : Nat} (h0 : 0 ≤ Q) (h1 : Q ≤ 49950) (hn : n ≤ 50) : ∀ x ∈ fairL Q n, 0 ≤ x ∧ x ≤ 50000 := by
  intro x hx
  simp only [fairL, List.mem_map, List.mem_range] at hx
  obtain ⟨i, hi, rfl⟩ := hx
  omega
def dropD (xs : List Int) (k : Nat) : List Int := xs.drop k
def fairD (Q : Int) (n k : Nat) : List Int := dropD (fairL Q n) k
theorem dropD_bounds {xs : List Int} (h : ∀ x ∈ xs, 0 ≤ x ∧ x ≤ 18446744073709551615) (k : Nat) : ∀ x ∈ dropD xs k, 0 ≤ x ∧ x ≤ 18446744073709551615 := fun x hx => h x (List.mem_of_mem_drop hx)
theorem dropD_len (xs : List Int) (k : Nat) : (dropD xs k).length = xs.length - k := by simp [dropD]
theorem dropD_end (xs : List Int) : dropD xs xs.length = [] := by simp [dropD]
theorem dropD_cons {xs : List Int} {k : Nat} (h : k < xs.length) : dropD xs k = xs[k] :: dropD xs (k + 1) := List.drop_eq_getElem_cons h
theorem fairD_bounds {Q : Int} {n : Nat} (h0 : 0 ≤ Q) (h1 : Q ≤ 49950) (hn : n ≤ 50) (k : Nat) : ∀ x ∈ fairD Q n k, 0 ≤ x ∧ x ≤ 18446744073709551615 := dropD_bounds (fun x hx => by have := fairL_bounds h0 h1 hn x hx; omega) k
theorem fairD_end (Q : Int) (n : Nat) : fairD Q n n = [] := by
  have := dropD_end (fairL Q n)
  rwa [fairL_len] at this
theorem own_all {w : World} {base : Nat} {e : TypeId} {a : Option Addr} {xs : List Int} {c : Nat} (h : w.ownsRow base e 1 (.slice a xs.length c) xs.length (xs.map (Value.int .u64))) (hwf : ∀ x ∈ xs, 0 ≤ x ∧ x ≤ 18446744073709551615) :
    Ints .u64 w w.heap.size a xs ∧ xs.length ≤ c ∧ c ≤ 9223372036854775807 := by
  obtain ⟨a', c', he, hI⟩ := own_ints h (wf_of_bounds hwf)
  injection he with e1 e2 e3
  subst e1; subst e3
  refine ⟨hI, own_cap h, ?_⟩
  rcases h.2 with ⟨h1, h2⟩ | ⟨g, cap, cur, h1, _, _, _, h3, _⟩
  · injection h1 with _ _ h3; omega
  · injection h1 with _ _ h4; unfold maxLen at h3; omega

theorem below_fair (a : Option Addr) (c : Nat) (s : St) (Q : Int) (n k : Nat) (w : World) (hi : Ints .u64 w w.heap.size a (fairD Q n k)) (hc : (fairD Q n k).length ≤ c) (hc2 : c ≤ 9223372036854775807) (hs : s.ok) (hz : s.zero = false) (hQ0 : 0 ≤ Q) (hQ1 : Q ≤ 49950)
    (hn1 : 1 ≤ n) (hn : n ≤ 50) (hk : k < n) (hmod : ((k : Int) + Q) % (n : Int) = k) :
    Calls Try.prog 14 #[.agg #[.slice a (fairD Q n k).length c, .int .u64 (s.a : Nat), .int .u64 (s.b : Nat), .int .u64 (s.c : Nat), .int .u64 (s.d : Nat)], .int .u64 (n : Int)] w (RetOwn w (k : Int) (fairD Q n (k + 1)) s 0) := by
  have hgs : GoodS (fairD Q n k) s := ⟨hs, hz, fairD_bounds hQ0 hQ1 hn k⟩
  have hf : fairD Q n k = ((k : Int) + Q) :: fairD Q n (k + 1) := fairL_drop hk
  have hX : gX (fairD Q n k) s = (k : Int) + Q := by rw [hf]; rfl
  have hL : gL (fairD Q n k) = fairD Q n (k + 1) := by rw [hf]; rfl
  have hS : gS (fairD Q n k) s = s := by rw [hf]; rfl
  have htk : takes (n : Int) ((k : Int) + Q) = true := by
    have := leftN_bounds (n := (n : Int)) (by omega)
    unfold takes
    simp only [Bool.or_eq_true, decide_eq_true_eq]
    right
    omega
  have := below_first a c s (fairD Q n k) (n : Int) w hi hc hc2 hgs (by unfold fairD; rw [dropD_len, fairL_len]; omega) (by omega) (by omega) (by rw [hX]; exact htk)
  rw [hX, hL, hS, hmod] at this
  exact this

theorem next_drop (a : Option Addr) (c : Nat) (s : St) (xs : List Int) (k : Nat) (w : World) (hi : Ints .u64 w w.heap.size a (dropD xs k)) (hc : (dropD xs k).length ≤ c) (hc2 : c ≤ 9223372036854775807) (hs : GoodS xs s) (h4 : xs.length ≤ 4096) (hk : k < xs.length) :
    Calls Try.prog 16 #[.agg #[.slice a (dropD xs k).length c, .int .u64 (s.a : Nat), .int .u64 (s.b : Nat), .int .u64 (s.c : Nat), .int .u64 (s.d : Nat)]] w (RetOwn w xs[k] (dropD xs (k + 1)) s 0) := by
  have hgs : GoodS (dropD xs k) s := ⟨hs.1, hs.2.1, dropD_bounds hs.2.2 k⟩
  have hf := dropD_cons hk
  have hX : gX (dropD xs k) s = xs[k] := by rw [hf]; rfl
  have hL : gL (dropD xs k) = dropD xs (k + 1) := by rw [hf]; rfl
  have hS : gS (dropD xs k) s = s := by rw [hf]; rfl
  have := next_good a c s (dropD xs k) w hi hc hc2 hgs (by rw [dropD_len]; omega)
  rw [hX, hL, hS] at this
  exact this
theorem kept {w7 Wz : World} {R B : Nat} {a7 : Option Addr} {xs : List Int} {c7 : Nat} {va vb vc vd u0 u1 u2 u3 u4 : Value} {ob : Obj} {T : TypeId} (hown : w7.ownsRow B T 1 (.slice a7 xs.length c7) xs.length (xs.map (Value.int .u64))) (hwf : ∀ x ∈ xs, 0 ≤ x ∧ x ≤ 18446744073709551615)
    (hB : R < B) (hR : R < w7.heap.size) (hBW : B ≤ w7.heap.size) (hb : Below R Wz w7) (hx : Box5 w7 R u0 u1 u2 u3 u4) :
    Below R Wz ((set5 w7 R (.slice a7 xs.length c7) va vb vc vd).alloc ob) ∧ Box5 ((set5 w7 R (.slice a7 xs.length c7) va vb vc vd).alloc ob) R (.slice a7 xs.length c7) va vb vc vd ∧
    Ints .u64 ((set5 w7 R (.slice a7 xs.length c7) va vb vc vd).alloc ob) ((set5 w7 R (.slice a7 xs.length c7) va vb vc vd).alloc ob).heap.size a7 xs ∧ xs.length ≤ c7 ∧ c7 ≤ 9223372036854775807 ∧ R + 1 ≤ ((set5 w7 R (.slice a7 xs.length c7) va vb vc vd).alloc ob).heap.size := by
  have hsz : (set5 w7 R (.slice a7 xs.length c7) va vb vc vd).heap.size = w7.heap.size := by simp [set5]
  have h1 : Below w7.heap.size (set5 w7 R (.slice a7 xs.length c7) va vb vc vd) ((set5 w7 R (.slice a7 xs.length c7) va vb vc vd).alloc ob) := (Below.refl _ _).alloc (by omega) _
  have ho : ((set5 w7 R (.slice a7 xs.length c7) va vb vc vd).alloc ob).ownsRow B T 1 (.slice a7 xs.length c7) xs.length (xs.map (Value.int .u64)) := by
    refine World.ownsRow.alloc ?_ _
    unfold set5
    iterate 5 refine ownsRow_setCell_below ?_ hB _
    exact hown
  obtain ⟨hI, hl, hc⟩ := own_all ho hwf
  exact ⟨(below_set5 hb (Nat.le_refl _) _ _ _ _ _).trans (h1.mono (by omega)), (hx.set _ _ _ _ _).below h1 hR, hI, hl, hc, by simp [hsz]; omega⟩
theorem next_none (a : Option Addr) (c : Nat) (s : St) (w : World) (hc2 : c ≤ 9223372036854775807) (hs : s.ok) (hz : s.zero = false) :
    Calls Try.prog 16 #[.agg #[.slice a 0 c, .int .u64 (s.a : Nat), .int .u64 (s.b : Nat), .int .u64 (s.c : Nat), .int .u64 (s.d : Nat)]] w (RetOwn w (s.draw : Nat) [] s.next 0) :=
  next_good a c s [] w ⟨by simp, by simp, fun i hi => absurd hi (Nat.not_lt_zero _)⟩ (Nat.zero_le _) hc2 ⟨hs, hz, by simp⟩ (by simp)

set_option maxHeartbeats 8000000 in
set_option maxRecDepth 100000 in
theorem rngFair_any (a : Option Addr) (n c : Nat) (w : World) (h : AsksAt w w.heap.size a n) :
    Calls Try.prog 3 #[.slice a n c] w fun e w' => e = .returned (.bool true) ∧ Below w.heap.size w w' := by
  have hm := h.len
  go_enter Try.func3, Try.ntmps3
  go_wp2_with fail
  go_loopw [3] (fun i wr => ∃ k : Nat, k ≤ n ∧ i = .int .i64 k ∧ Below w.heap.size w wr) (fun i _ => n - (intOf i).toNat)
  case atStart => exact ⟨0, Nat.zero_le _, rfl, Below.refl _ _⟩
  case round =>
    obtain ⟨k, hk, rfl, hbel⟩ := hrel
    obtain ⟨wo, rfl⟩ : ∃ wo : World, wo = wr := ⟨_, rfl⟩
    by_cases hend : k < n ∧ k < 15
    · obtain ⟨hlt, h20⟩ := hend
      obtain ⟨b, off, aR, xs, cR, s, m, rfl, ht⟩ := h.at_ k hlt
      replace ht := ht.below hbel
      have hsz := hbel.size
      have HGS := Lib.hid (fun hg => goodR_goodS ht hg)
      obtain ⟨hbl, c0, c1, c2, c3, c4, c5, iR, hcR, hcR2, hok, m0, m1⟩ := ht
      replace iR := iR.mono hsz
      have HB := Lib.hid hbel
      have hRl := iR.len
      have hRwf := Lib.hid iR.wf
      clear hbel h
      have E : Env .u64 24 wo.heap.size wo (wo.alloc (.cells #[.slice aR xs.length cR, .int .u64 (s.a : Nat), .int .u64 (s.b : Nat), .int .u64 (s.c : Nat), .int .u64 (s.d : Nat), .int .u64 m] 29))
          [(aR, xs)] [] [(⟨wo.heap.size, 5, none⟩, .int .u64 m), (⟨wo.heap.size, 4, none⟩, .int .u64 (s.d : Nat)), (⟨wo.heap.size, 3, none⟩, .int .u64 (s.c : Nat)), (⟨wo.heap.size, 2, none⟩, .int .u64 (s.b : Nat)), (⟨wo.heap.size, 1, none⟩, .int .u64 (s.a : Nat)), (⟨wo.heap.size, 0, none⟩, .slice aR xs.length cR)] :=
        ((((((((Env.start .u64 24 wo).addL iR).alloc _).addC (by simp [go_sem])).addC (by simp [go_sem])).addC (by simp [go_sem])).addC (by simp [go_sem])).addC (by simp [go_sem])).addC (by simp [go_sem])
      clear iR
      have HM := fun W => Lib.hid (may24_any aR xs.length cR s W hok hRl)
      by_cases h200 : 200 < xs.length
      · have hl1 : (200 : Int) < (xs.length : Int) := by omega
        go_wp2_with fail
        refine ⟨⟨k + 1, by omega, by go_num, HB.out.trans (E.bel.mono hsz)⟩, ?_⟩
        simp [intOf]; omega
      · have hl1 : (xs.length : Int) ≤ 200 := by omega
        have hl2 : ¬ (200 : Int) < (xs.length : Int) := by omega
        cases hg : goodR xs.length s
        · rw [hg] at HM
          go_wp2_with (first | (go_at_call 13; go_loud (refine (HM _).out.mono ?_; rintro e w1 ⟨rfl, hb⟩; replace E := E.next hb; clear hb; have p0 := E.cell (a := ⟨wo.heap.size, 0, none⟩) (v := .slice aR xs.length cR) (by simp); have p1 := E.cell (a := ⟨wo.heap.size, 1, none⟩) (v := .int .u64 (s.a : Nat)) (by simp); have p2 := E.cell (a := ⟨wo.heap.size, 2, none⟩) (v := .int .u64 (s.b : Nat)) (by simp); have p3 := E.cell (a := ⟨wo.heap.size, 3, none⟩) (v := .int .u64 (s.c : Nat)) (by simp); have p4 := E.cell (a := ⟨wo.heap.size, 4, none⟩) (v := .int .u64 (s.d : Nat)) (by simp); have p5 := E.cell (a := ⟨wo.heap.size, 5, none⟩) (v := .int .u64 m) (by simp))))
          refine ⟨⟨k + 1, by omega, by go_num, HB.out.trans (E.bel.mono hsz)⟩, ?_⟩
          simp [intOf]; omega
        · rw [hg] at HM
          by_cases hmz : m = 0
          · have hmt : (m == 0) = true := by simp; exact hmz
            clear hmz
            go_wp2_with (first | (go_at_call 13; go_loud (refine (HM _).out.mono ?_; rintro e w1 ⟨rfl, hb⟩; replace E := E.next hb; clear hb; have p0 := E.cell (a := ⟨wo.heap.size, 0, none⟩) (v := .slice aR xs.length cR) (by simp); have p1 := E.cell (a := ⟨wo.heap.size, 1, none⟩) (v := .int .u64 (s.a : Nat)) (by simp); have p2 := E.cell (a := ⟨wo.heap.size, 2, none⟩) (v := .int .u64 (s.b : Nat)) (by simp); have p3 := E.cell (a := ⟨wo.heap.size, 3, none⟩) (v := .int .u64 (s.c : Nat)) (by simp); have p4 := E.cell (a := ⟨wo.heap.size, 4, none⟩) (v := .int .u64 (s.d : Nat)) (by simp); have p5 := E.cell (a := ⟨wo.heap.size, 5, none⟩) (v := .int .u64 m) (by simp))))
            refine ⟨⟨k + 1, by omega, by go_num, HB.out.trans (E.bel.mono hsz)⟩, ?_⟩
            simp [intOf]; omega
          · have hmf : (m == 0) = false := by simp; exact hmz
            have hm1 : 1 ≤ m := by omega
            obtain ⟨hgs, h4⟩ := HGS.out hg
            have HOK := Lib.hid hok
            have HZ : Hid (s.zero = false) := Lib.hid hgs.2.1
            obtain ⟨k0, hrej, hacc⟩ := draw_ends hgs hm1 m1
            have hge1 : genX xs s k0 % m < m := Int.emod_lt_of_pos _ (by omega)
            have hge2 : ¬ m ≤ genX xs s k0 % m := by omega
            have HRJ := Lib.hid hrej
            have HAC := Lib.hid hacc
            have GS := Lib.hid hgs
            have GSK := Lib.hid (hgs.gen (k0 + 1))
            have H4 := Lib.hid h4
            obtain ⟨NN, hNN⟩ : ∃ NN : Nat, (1 + m % 50) = (NN : Int) := ⟨(1 + m % 50).toNat, by omega⟩
            have hN1 : 1 ≤ NN := by omega
            have hN2 : NN ≤ 50 := by omega
            have hNw : IntKind.u64.wrap (1 + m % 50) = (NN : Int) := by rw [wrap_u64, hNN]; omega
            obtain ⟨Q, hQ⟩ : ∃ Q : Int, (NN : Int) * (m % 1000) = Q := ⟨_, rfl⟩
            have hQ0 : 0 ≤ Q := by rw [← hQ]; exact Int.mul_nonneg (by omega) (by omega)
            have hQ1 : Q ≤ 49950 := by rw [← hQ]; exact Int.le_trans (Int.mul_le_mul (show (NN : Int) ≤ 50 by omega) (show m % 1000 ≤ 999 by omega) (by omega) (by omega)) (by omega)
            have HQM : Hid (∀ j : Nat, j < NN → ((j : Int) + Q) % (NN : Int) = j) := Lib.hid (fun j hj => by rw [← hQ, Int.add_mul_emod_self_left]; exact Int.emod_eq_of_lt (by omega) (by omega))
            have hQw : IntKind.u64.wrap ((NN : Int) * (m % 1000)) = Q := by rw [hQ, wrap_u64]; omega
            clear hQ
            clear hgs hg HGS h4 hok hrej hacc
            go_wp2_with (first | (go_at_call 13; go_loud (refine (HM _).out.mono ?_; rintro e w1 ⟨rfl, hb⟩; replace E := E.next hb; clear hb; have p0 := E.cell (a := ⟨wo.heap.size, 0, none⟩) (v := .slice aR xs.length cR) (by simp); have p1 := E.cell (a := ⟨wo.heap.size, 1, none⟩) (v := .int .u64 (s.a : Nat)) (by simp); have p2 := E.cell (a := ⟨wo.heap.size, 2, none⟩) (v := .int .u64 (s.b : Nat)) (by simp); have p3 := E.cell (a := ⟨wo.heap.size, 3, none⟩) (v := .int .u64 (s.c : Nat)) (by simp); have p4 := E.cell (a := ⟨wo.heap.size, 4, none⟩) (v := .int .u64 (s.d : Nat)) (by simp); have p5 := E.cell (a := ⟨wo.heap.size, 5, none⟩) (v := .int .u64 m) (by simp))) | (go_at_call 15; refine (num24_any _ _).mono ?_; rintro e w' ⟨rfl, rfl⟩) | (go_at_call_has 14 (Value.int IntKind.u64 m); go_loud (refine (below_good aR cR s xs m k0 _ (E.live (by simp)) hcR hcR2 GS.out H4.out hm1 m1 HRJ.out HAC.out).mono ?_; rintro e w2 ⟨a2, c2, rfl, hown, hb⟩; have hc2 := own_cap hown; replace E := E.rand hb (.int .u64 ((gen xs s (k0 + 1)).2.a : Nat)) (.int .u64 ((gen xs s (k0 + 1)).2.b : Nat)) (.int .u64 ((gen xs s (k0 + 1)).2.c : Nat)) (.int .u64 ((gen xs s (k0 + 1)).2.d : Nat)) 27 hown (wf_of_bounds GSK.out.2.2); clear hown hb; have p0 := E.cell (a := ⟨wo.heap.size, 0, none⟩) (v := .slice aR xs.length cR) (by simp); have p1 := E.cell (a := ⟨wo.heap.size, 1, none⟩) (v := .int .u64 (s.a : Nat)) (by simp); have p2 := E.cell (a := ⟨wo.heap.size, 2, none⟩) (v := .int .u64 (s.b : Nat)) (by simp); have p3 := E.cell (a := ⟨wo.heap.size, 3, none⟩) (v := .int .u64 (s.c : Nat)) (by simp); have p4 := E.cell (a := ⟨wo.heap.size, 4, none⟩) (v := .int .u64 (s.d : Nat)) (by simp); have p5 := E.cell (a := ⟨wo.heap.size, 5, none⟩) (v := .int .u64 m) (by simp))))
            have hz : (w2.alloc (.cells #[.slice a2 (gen xs s (k0 + 1)).1.length c2, .int .u64 ((gen xs s (k0 + 1)).2.a : Nat), .int .u64 ((gen xs s (k0 + 1)).2.b : Nat), .int .u64 ((gen xs s (k0 + 1)).2.c : Nat), .int .u64 ((gen xs s (k0 + 1)).2.d : Nat)] 27)).heap.size = w2.heap.size + 1 := by simp
            rw [← hz]
            clear hz
            generalize w2.alloc (.cells #[.slice a2 (gen xs s (k0 + 1)).1.length c2, .int .u64 ((gen xs s (k0 + 1)).2.a : Nat), .int .u64 ((gen xs s (k0 + 1)).2.b : Nat), .int .u64 ((gen xs s (k0 + 1)).2.c : Nat), .int .u64 ((gen xs s (k0 + 1)).2.d : Nat)] 27) = Wz at E ⊢
            have HE := Lib.hid E
            clear E
            go_loopw [10] (fun i wl => ∃ j : Nat, j ≤ NN ∧ i = .int .u64 j ∧ Below Wz.heap.size Wz wl ∧ (∃ a c, Box5 wl Wz.heap.size (.slice a j c) (.int .u64 (s.a : Nat)) (.int .u64 (s.b : Nat)) (.int .u64 (s.c : Nat)) (.int .u64 (s.d : Nat)) ∧ wl.ownsRow (Wz.heap.size + 1) 24 1 (.slice a j c) j ((fairL Q j).map (Value.int .u64))) ∧ Wz.heap.size + 1 ≤ wl.heap.size) (fun i _ => NN - (intOf i).toNat)
            case atStart =>
              exact ⟨0, Nat.zero_le _, rfl, (Below.refl _ _).alloc (Nat.le_refl _) _, ⟨none, 0, by constructor <;> go_simp, World.ownsRow_nil _ _ _ _⟩, by simp⟩
            case round =>
              obtain ⟨j, hj, rfl, hbz, ⟨a9, c9, hbx, hown⟩, hs9⟩ := hrel
              have HBZ := Lib.hid hbz
              have HBX := Lib.hid hbx
              have HOW := Lib.hid hown
              have E := HE.out.next hbz
              have p0 := E.cell (a := ⟨wo.heap.size, 0, none⟩) (v := .slice aR xs.length cR) (by simp)
              have p1 := E.cell (a := ⟨wo.heap.size, 1, none⟩) (v := .int .u64 (s.a : Nat)) (by simp)
              have p2 := E.cell (a := ⟨wo.heap.size, 2, none⟩) (v := .int .u64 (s.b : Nat)) (by simp)
              have p3 := E.cell (a := ⟨wo.heap.size, 3, none⟩) (v := .int .u64 (s.c : Nat)) (by simp)
              have p4 := E.cell (a := ⟨wo.heap.size, 4, none⟩) (v := .int .u64 (s.d : Nat)) (by simp)
              have p5 := E.cell (a := ⟨wo.heap.size, 5, none⟩) (v := .int .u64 m) (by simp)
              obtain ⟨q0, q1, q2, q3, q4, f0, f1, f2, f3, f4⟩ := hbx
              clear E hbz hown
              by_cases hlt : j < NN
              · have hltI : (j : Int) < (NN : Int) := by omega
                have hjQ : IntKind.u64.wrap ((j : Int) + Q) = (j : Int) + Q := by rw [wrap_u64]; omega
                go_wp2_with (at_builtin; go_loud (refine wpl_append1 23 24 .u64 infoU64 Try.underlying23 (Wz.heap.size + 1) _ j (fairL Q j) ((j : Int) + Q) _ _ _ rfl rfl rfl HOW.out rfl (by omega) hs9 ?_; intro v' w4 hown1 hbel1 _; rw [← fairL_succ] at hown1; obtain ⟨a4, c4, rfl, _⟩ := own_shape hown1; have HBR := Lib.hid (hbel1 _ _ (Nat.le_refl _) (Below.refl _ _)); have HBN := Lib.hid (hbel1 _ _ (Nat.le_succ _) HBZ.out); have HO1 := Lib.hid hown1; have BX1 := HBX.out.below HBR.out (Nat.lt_succ_self _); obtain ⟨v0, v1, v2, v3, v4, g0, g1, g2, g3, g4⟩ := BX1; clear hown1 hbel1))
                refine ⟨⟨j + 1, by omega, by go_num, HBN.out.setCell (p := ⟨_, _, _⟩) (Nat.le_refl _) _, ⟨a4, c4, by constructor <;> go_simp, ownsRow_setCell_below HO1.out (by simp) _⟩, by have := HBR.out.size; simp; omega⟩, ?_⟩
                simp [intOf]; omega
              · obtain rfl : j = NN := by omega
                have hltI : ¬ (j : Int) < (j : Int) := by omega
                obtain ⟨w5, rfl⟩ : ∃ w5 : World, w5 = wr := ⟨_, rfl⟩
                obtain ⟨hI5, hl5, hm5⟩ := own_all (xs := fairL Q j) (by rw [fairL_len]; exact HOW.out) (fun x hx => by have := fairL_bounds hQ0 hQ1 hN2 x hx; omega)
                rw [fairL_len] at hl5
                have HI5 := Lib.hid hI5
                have HC5 := Lib.hid (And.intro hl5 hm5)
                clear hI5 hl5 hm5 HOW
                go_wp2_with fail
                go_loopw [11] (fun i wl => ∃ k : Nat, k ≤ j ∧ i = .int .u64 k ∧ Below Wz.heap.size Wz wl ∧ (∃ a c, Box5 wl Wz.heap.size (.slice a (fairD Q j k).length c) (.int .u64 (s.a : Nat)) (.int .u64 (s.b : Nat)) (.int .u64 (s.c : Nat)) (.int .u64 (s.d : Nat)) ∧ Ints .u64 wl wl.heap.size a (fairD Q j k) ∧ (fairD Q j k).length ≤ c ∧ c ≤ 9223372036854775807) ∧ Wz.heap.size + 1 ≤ wl.heap.size) (fun i _ => j - (intOf i).toNat)
                case atStart =>
                  refine ⟨0, Nat.zero_le _, rfl, HBZ.out, ⟨a9, c9, ?_, HI5.out, ?_, HC5.out.2⟩, hs9⟩
                  · have := HBX.out
                    rw [show (fairD Q j 0).length = j from fairL_len Q j]
                    exact this
                  · rw [show (fairD Q j 0).length = j from fairL_len Q j]
                    exact HC5.out.1
                case round =>
                  clear HBZ HBX HI5 HC5 hs9 p0 p1 p2 p3 p4 p5 q0 q1 q2 q3 q4 f0 f1 f2 f3 f4 a9 c9
                  obtain ⟨l, hl, rfl, hbz, ⟨a9, c9, hbx, hi9, hc9, hm9⟩, hs9⟩ := hrel
                  have HBZ := Lib.hid hbz
                  have HBX := Lib.hid hbx
                  have HIN := Lib.hid hi9
                  obtain ⟨q0, q1, q2, q3, q4, f0, f1, f2, f3, f4⟩ := hbx
                  clear hbz hi9
                  by_cases hlt : l < j
                  · have hltJ : (l : Int) < (j : Int) := by omega
                    have hlw : IntKind.u64.wrap ((l : Int) + 1) = (l : Int) + 1 := by rw [wrap_u64]; omega
                    go_wp2_with (first | (go_at_call 15; refine (num24_any _ _).mono ?_; rintro e w' ⟨rfl, rfl⟩) | (go_at_call 14; go_loud (refine (below_fair a9 c9 s Q j l _ HIN.out hc9 hm9 HOK.out HZ.out hQ0 hQ1 hN1 hN2 hlt (HQM.out l hlt)).mono ?_; rintro e w7 ⟨a7, c7, rfl, hown7, hb7⟩; have HB7 := Lib.hid hb7; have HO7 := Lib.hid hown7; have BX7 := HBX.out.below hb7 (by omega); obtain ⟨v0, v1, v2, v3, v4, g0, g1, g2, g3, g4⟩ := BX7; have hs7 := hb7.size; have hW7 : Wz.heap.size < w7.heap.size := (by omega); have hW8 : ¬ Wz.heap.size = w7.heap.size := (by omega); have hW9 : ¬ w7.heap.size = Wz.heap.size := (by omega); clear hown7 hb7)))
                    obtain ⟨e1, e2, e3, e4, e5, e6⟩ := kept (va := .int .u64 (s.a : Nat)) (vb := .int .u64 (s.b : Nat)) (vc := .int .u64 (s.c : Nat)) (vd := .int .u64 (s.d : Nat)) (ob := .cells #[.slice a7 (fairD Q j (l + 1)).length c7, .int .u64 (s.a : Nat), .int .u64 (s.b : Nat), .int .u64 (s.c : Nat), .int .u64 (s.d : Nat)] 27) HO7.out (fairD_bounds hQ0 hQ1 hN2 _) (by omega) hW7 hs7 (HBZ.out.trans (HB7.out.mono (by omega))) (HBX.out.below HB7.out (by omega))
                    refine ⟨⟨l + 1, by omega, by go_num, e1, ⟨a7, c7, e2, e3, e4, e5⟩, e6⟩, ?_⟩
                    simp [intOf]; omega
                  · obtain rfl : l = j := by omega
                    have hltJ : ¬ (l : Int) < (l : Int) := by omega
                    obtain ⟨w8, rfl⟩ : ∃ w8 : World, w8 = wr := ⟨_, rfl⟩
                    rw [fairD_end] at q0
                    have hq0 : w8.cell? ⟨Wz.heap.size, 0, none⟩ = some (.slice a9 0 c9) := q0
                    clear q0
                    have HE4 := run_eq4
                    have E := HE.out.next HBZ.out
                    have p0 := E.cell (a := ⟨wo.heap.size, 0, none⟩) (v := .slice aR xs.length cR) (by simp)
                    have p1 := E.cell (a := ⟨wo.heap.size, 1, none⟩) (v := .int .u64 (s.a : Nat)) (by simp)
                    have p2 := E.cell (a := ⟨wo.heap.size, 2, none⟩) (v := .int .u64 (s.b : Nat)) (by simp)
                    have p3 := E.cell (a := ⟨wo.heap.size, 3, none⟩) (v := .int .u64 (s.c : Nat)) (by simp)
                    have p4 := E.cell (a := ⟨wo.heap.size, 4, none⟩) (v := .int .u64 (s.d : Nat)) (by simp)
                    have p5 := E.cell (a := ⟨wo.heap.size, 5, none⟩) (v := .int .u64 m) (by simp)
                    clear E
                    go_wp2_with fail
                    go_loopw [15] (fun i wl => ∃ q : Nat, q ≤ xs.length ∧ i = .int .i64 q ∧ Below Wz.heap.size Wz wl ∧ (∃ a c, Box5 wl Wz.heap.size (.slice a (dropD xs q).length c) (.int .u64 (s.a : Nat)) (.int .u64 (s.b : Nat)) (.int .u64 (s.c : Nat)) (.int .u64 (s.d : Nat)) ∧ Ints .u64 wl wl.heap.size a (dropD xs q) ∧ (dropD xs q).length ≤ c ∧ c ≤ 9223372036854775807) ∧ Wz.heap.size + 1 ≤ wl.heap.size) (fun i _ => xs.length - (intOf i).toNat)
                    case atStart =>
                      have hb8 := below_set5 HBZ.out (Nat.le_refl _) (.slice aR xs.length cR) (.int .u64 (s.a : Nat)) (.int .u64 (s.b : Nat)) (.int .u64 (s.c : Nat)) (.int .u64 (s.d : Nat))
                      exact ⟨0, Nat.zero_le _, rfl, hb8, ⟨aR, cR, HBX.out.set (.slice aR xs.length cR) (.int .u64 (s.a : Nat)) (.int .u64 (s.b : Nat)) (.int .u64 (s.c : Nat)) (.int .u64 (s.d : Nat)), (HE.out.next hb8).live (a := aR) (xs := xs) (by simp), hcR, hcR2⟩, by simp; omega⟩
                    case round =>
                      clear HBZ HBX HIN hs9 hc9 hm9 p0 p1 p2 p3 p4 p5 hq0 q1 q2 q3 q4 f0 f1 f2 f3 f4
                      obtain ⟨q, hq, rfl, hbz, ⟨a9, c9, hbx, hi9, hc9, hm9⟩, hs9⟩ := hrel
                      have HBZ := Lib.hid hbz
                      have HBX := Lib.hid hbx
                      have HIN := Lib.hid hi9
                      have E := HE.out.next hbz
                      have p0 := E.cell (a := ⟨wo.heap.size, 0, none⟩) (v := .slice aR xs.length cR) (by simp)
                      have p1 := E.cell (a := ⟨wo.heap.size, 1, none⟩) (v := .int .u64 (s.a : Nat)) (by simp)
                      have p2 := E.cell (a := ⟨wo.heap.size, 2, none⟩) (v := .int .u64 (s.b : Nat)) (by simp)
                      have p3 := E.cell (a := ⟨wo.heap.size, 3, none⟩) (v := .int .u64 (s.c : Nat)) (by simp)
                      have p4 := E.cell (a := ⟨wo.heap.size, 4, none⟩) (v := .int .u64 (s.d : Nat)) (by simp)
                      have p5 := E.cell (a := ⟨wo.heap.size, 5, none⟩) (v := .int .u64 m) (by simp)
                      obtain ⟨q0, q1, q2, q3, q4, f0, f1, f2, f3, f4⟩ := hbx
                      by_cases hlt : q < xs.length
                      · have hqI : (q : Int) < (xs.length : Int) := by omega
                        have hwoz : wo.heap.size < Wz.heap.size := (HE.out.cells (⟨wo.heap.size, 5, none⟩, .int .u64 m) (by simp)).2
                        obtain ⟨bS, oS, hS, hbS, hcS⟩ := (E.live (a := aR) (xs := xs) (by simp)).cell q hlt
                        rw [List.getElem?_eq_getElem hlt, Option.getD_some] at hcS
                        clear E hbz hi9
                        subst hS
                        go_wp2_with (first | (go_at_call 15; refine (num24_any _ _).mono ?_; rintro e w' ⟨rfl, rfl⟩) | (go_at_call 16; go_loud (refine (next_drop a9 c9 s xs q _ HIN.out hc9 hm9 GS.out H4.out hlt).mono ?_; rintro e w7 ⟨a7, c7, rfl, hown7, hb7⟩; have HB7 := Lib.hid hb7; have HO7 := Lib.hid hown7; have BX7 := HBX.out.below hb7 (by omega); obtain ⟨v0, v1, v2, v3, v4, g0, g1, g2, g3, g4⟩ := BX7; have hs7 := hb7.size; have hW7 : Wz.heap.size < w7.heap.size := (by omega); have hW8 : ¬ Wz.heap.size = w7.heap.size := (by omega); have hW9 : ¬ w7.heap.size = Wz.heap.size := (by omega); have P0 := (hb7.cell (p := ⟨wo.heap.size, 0, none⟩) (by show wo.heap.size < _; omega)).trans p0; have hW10 : wo.heap.size < w7.heap.size := (by omega); have hW11 : ¬ wo.heap.size = w7.heap.size := (by omega); have S7 := (hb7.cell (p := ⟨bS, oS + q, none⟩) hbS).trans hcS; have hW12 : bS < w7.heap.size := (by omega); have hW13 : ¬ bS = w7.heap.size := (by omega); clear hown7 hb7)))
                        obtain ⟨e1, e2, e3, e4, e5, e6⟩ := kept (va := .int .u64 (s.a : Nat)) (vb := .int .u64 (s.b : Nat)) (vc := .int .u64 (s.c : Nat)) (vd := .int .u64 (s.d : Nat)) (ob := .cells #[.slice a7 (dropD xs (q + 1)).length c7, .int .u64 (s.a : Nat), .int .u64 (s.b : Nat), .int .u64 (s.c : Nat), .int .u64 (s.d : Nat)] 27) HO7.out (dropD_bounds GS.out.2.2 _) (by omega) hW7 hs7 (HBZ.out.trans (HB7.out.mono (by omega))) (HBX.out.below HB7.out (by omega))
                        refine ⟨⟨q + 1, by omega, by go_num, e1, ⟨a7, c7, e2, e3, e4, e5⟩, e6⟩, ?_⟩
                        simp [intOf]; omega
                      · obtain rfl : q = xs.length := by omega
                        have hqI : ¬ (xs.length : Int) < (xs.length : Int) := by omega
                        rw [dropD_end] at q0
                        have hq0 : wr.cell? ⟨Wz.heap.size, 0, none⟩ = some (.slice a9 0 c9) := q0
                        clear q0 hbz hi9 HBX HIN
                        go_wp2_with (first | (go_at_call 15; refine (num24_any _ _).mono ?_; rintro e w' ⟨rfl, rfl⟩) | (go_at_call 16; go_loud (refine (next_none _ _ s _ (by omega) HOK.out HZ.out).mono ?_; rintro e w10 ⟨a10, c10, rfl, hown, hb⟩; replace E := E.rand hb (.int .u64 (s.next.a : Nat)) (.int .u64 (s.next.b : Nat)) (.int .u64 (s.next.c : Nat)) (.int .u64 (s.next.d : Nat)) 27 hown (by simp); simp only [List.length_nil] at E; clear hown hb; have p0 := E.cell (a := ⟨wo.heap.size, 0, none⟩) (v := .slice aR xs.length cR) (by simp); have p1 := E.cell (a := ⟨wo.heap.size, 1, none⟩) (v := .int .u64 (s.a : Nat)) (by simp); have p2 := E.cell (a := ⟨wo.heap.size, 2, none⟩) (v := .int .u64 (s.b : Nat)) (by simp); have p3 := E.cell (a := ⟨wo.heap.size, 3, none⟩) (v := .int .u64 (s.c : Nat)) (by simp); have p4 := E.cell (a := ⟨wo.heap.size, 4, none⟩) (v := .int .u64 (s.d : Nat)) (by simp); have p5 := E.cell (a := ⟨wo.heap.size, 5, none⟩) (v := .int .u64 m) (by simp))))
                        refine ⟨⟨k + 1, by omega, by go_num, HB.out.trans (E.bel.mono hsz)⟩, ?_⟩
                        simp [intOf]; omega
    · have HB := Lib.hid hbel
      clear hbel h
      have WK := fun W => Lib.hid (wakes24_any W)
      by_cases hlt : k < n
      · have hk15 : ¬ (k : Int) < 15 := by omega
        have hkn : (k : Int) < n := by omega
        go_wp2_with (first | (go_at_call 17; refine (wakes24_any _).mono ?_; rintro e w1 ⟨rfl, hb⟩; have HW1 := Lib.hid hb; clear hb))
        go_ret
        exact ⟨rfl, HB.out.trans (HW1.out.mono HB.out.size)⟩
      · have hkn : ¬ (k : Int) < n := by omega
        go_wp2_with (first | (go_at_call 17; refine (wakes24_any _).mono ?_; rintro e w1 ⟨rfl, hb⟩; have HW1 := Lib.hid hb; clear hb))
        go_ret
        exact ⟨rfl, HB.out.trans (HW1.out.mono HB.out.size)⟩
end Go.Proofs.Ytiejkdnkdmanmaa
