/- The law LoaderExact, walked. -/
import Derived.Test.YtiejkdnkdmanmaaLoadW
import Derived.Test.YtiejkdnkdmanmaaShapeWA
set_option linter.unusedVariables false
set_option linter.unusedSimpArgs false
namespace Go.Proofs.Ytiejkdnkdmanmaa
open Go.RowKit Go.Rt
set_option maxRecDepth 100000 in
set_option maxHeartbeats 8000000 in
theorem loaderExact_any (a : Option Addr) (n c : Nat) (w : World) (h : PlaysAt w w.heap.size a n) :
    Calls Try.prog 12 #[.slice a n c] w fun e w' => e = .returned (.bool true) ∧ Below w.heap.size w w' := by
  have hm := h.len
  go_enter Try.func12, Try.ntmps12
  go_wp2_with fail
  go_loopw [3] (fun i wr => ∃ k : Nat, k ≤ n ∧ i = .int .i64 k ∧ Below w.heap.size w wr) (fun i _ => n - (intOf i).toNat)
  case atStart => exact ⟨0, Nat.zero_le _, rfl, Below.refl _ _⟩
  case round =>
    obtain ⟨k, hk, rfl, hbel⟩ := hrel
    obtain ⟨wo, rfl⟩ : ∃ wo : World, wo = wr := ⟨_, rfl⟩
    by_cases hend : k < n ∧ k < 8
    · obtain ⟨hlt, h20⟩ := hend
      obtain ⟨b, off, aX, xs, cX, at_, ep, aR, rs, cR, s, m, z, rfl, ht⟩ := h.at_ k hlt
      replace ht := ht.below hbel
      have hsz := hbel.size
      have q0 := ht.cell 0 _ rfl
      have q1 := ht.cell 1 _ rfl
      have q2 := ht.cell 2 _ rfl
      have q3 := ht.cell 3 _ rfl
      have q4 := ht.cell 4 _ rfl
      have q5 := ht.cell 5 _ rfl
      have q6 := ht.cell 6 _ rfl
      have q7 := ht.cell 7 _ rfl
      have q8 := ht.cell 8 _ rfl
      have q9 := ht.cell 9 _ rfl
      simp only [Nat.add_zero] at q0
      have HX := Lib.hid (ht.ix.mono hsz)
      have HR := Lib.hid (ht.ir.mono hsz)
      have hcc := And.intro ht.hc ht.hc2
      have HCC := Lib.hid hcc
      have hok := Lib.hid ht.ok
      have hxl := HX.out.len
      have hrl := HR.out.len
      have hb1 := ht.hat
      have hb2 := ht.hep
      have hb3 := ht.hn
      have hb4 := ht.hz
      have HWR := Lib.hid (ints_wf64 HR.out)
      have HB := Lib.hid hbel
      have hbl := ht.lt
      clear hbel h ht hcc
      obtain ⟨hb1a, hb1b⟩ := hb1
      obtain ⟨hb2a, hb2b⟩ := hb2
      obtain ⟨hb3a, hb3b⟩ := hb3
      obtain ⟨hb4a, hb4b⟩ := hb4
      have F1 := Lib.hid ((Fr.start (w := wo) (I := [(.i64, aX, xs), (.u64, aR, rs)]) (by intro p hp; simp at hp; rcases hp with rfl | rfl; exact HX.out; exact HR.out)).box1 (b := wo.heap.size) rfl [.slice aX xs.length cX, .int .i64 at_, .int .i64 ep, .slice aR rs.length cR, .int .u64 (s.a : Nat), .int .u64 (s.b : Nat), .int .u64 (s.c : Nat), .int .u64 (s.d : Nat), .int .i64 m, .int .i64 z] 75)
      simp only [List.nil_append] at F1
      go_upto_region 5 with fail
      obtain ⟨W1, hW1⟩ : ∃ W1, wo.alloc (.cells #[.slice aX xs.length cX, .int .i64 at_, .int .i64 ep, .slice aR rs.length cR, .int .u64 (s.a : Nat), .int .u64 (s.b : Nat), .int .u64 (s.c : Nat), .int .u64 (s.d : Nat), .int .i64 m, .int .i64 z] 75) = W1 := ⟨_, rfl⟩
      rw [hW1] at F1 ⊢
      clear hW1 q0 q1 q2 q3 q4 q5 q6 q7 q8 q9
      skip
      have c0_0 := F1.out.c 0 0 rfl rfl
      have c0_1 := F1.out.c 0 1 rfl rfl
      have c0_2 := F1.out.c 0 2 rfl rfl
      have c0_3 := F1.out.c 0 3 rfl rfl
      have c0_4 := F1.out.c 0 4 rfl rfl
      have c0_5 := F1.out.c 0 5 rfl rfl
      have c0_6 := F1.out.c 0 6 rfl rfl
      have c0_7 := F1.out.c 0 7 rfl rfl
      have c0_8 := F1.out.c 0 8 rfl rfl
      have c0_9 := F1.out.c 0 9 rfl rfl
      have hhv := fun W => Lib.hid (heavy31_any aX aR xs.length cX rs.length cR at_ ep (s.a : Nat) (s.b : Nat) (s.c : Nat) (s.d : Nat) m z W hxl hrl)
      cases hv : heavy31 xs.length rs.length m with
      | true =>
        rw [hv] at hhv
        clear hv
        go_wp2_with (go_at_call 48; refine ((hhv _).out).mono ?_; rintro e w2 ⟨rfl, hb⟩; have F2 := Lib.hid (F1.out.next hb); clear hb c0_0 c0_1 c0_2 c0_3 c0_4 c0_5 c0_6 c0_7 c0_8 c0_9; have d0_0 := F2.out.c 0 0 rfl rfl; have d0_1 := F2.out.c 0 1 rfl rfl; have d0_2 := F2.out.c 0 2 rfl rfl; have d0_3 := F2.out.c 0 3 rfl rfl; have d0_4 := F2.out.c 0 4 rfl rfl; have d0_5 := F2.out.c 0 5 rfl rfl; have d0_6 := F2.out.c 0 6 rfl rfl; have d0_7 := F2.out.c 0 7 rfl rfl; have d0_8 := F2.out.c 0 8 rfl rfl; have d0_9 := F2.out.c 0 9 rfl rfl)
        go_ret
        exact ⟨rfl, HB.out.trans (F2.out.bel.mono HB.out.size)⟩
      | false =>
        rw [hv] at hhv
        have HNV := heavy31_no hv
        obtain ⟨hv1, hv2, hv3⟩ := HNV
        clear hv
        go_upto_region 8 with (go_at_call 48; refine ((hhv _).out).mono ?_; rintro e w2 ⟨rfl, hb⟩; have F2 := Lib.hid (F1.out.next hb); clear hb c0_0 c0_1 c0_2 c0_3 c0_4 c0_5 c0_6 c0_7 c0_8 c0_9; have d0_0 := F2.out.c 0 0 rfl rfl; have d0_1 := F2.out.c 0 1 rfl rfl; have d0_2 := F2.out.c 0 2 rfl rfl; have d0_3 := F2.out.c 0 3 rfl rfl; have d0_4 := F2.out.c 0 4 rfl rfl; have d0_5 := F2.out.c 0 5 rfl rfl; have d0_6 := F2.out.c 0 6 rfl rfl; have d0_7 := F2.out.c 0 7 rfl rfl; have d0_8 := F2.out.c 0 8 rfl rfl; have d0_9 := F2.out.c 0 9 rfl rfl)
        clear hhv F1
        have hmy := fun W => Lib.hid (may24_any aR rs.length cR s W hok.out hrl)
        obtain ⟨g, hg⟩ : ∃ g, goodR rs.length s = g := ⟨_, rfl⟩
        rw [hg] at hmy
        have HG := Lib.hid hg
        clear hg
        go_cut [50] from 37 to 50 (fun s50 wx => ∃ q : Bool, s50 = .bool q ∧ Hid (q = !(sOk rs s m)) ∧ Hid (Fr wo.heap.size wo wx [(wo.heap.size, [.slice aX xs.length cX, .int .i64 at_, .int .i64 ep, .slice aR rs.length cR, .int .u64 (s.a : Nat), .int .u64 (s.b : Nat), .int .u64 (s.c : Nat), .int .u64 (s.d : Nat), .int .i64 m, .int .i64 z])] [(.i64, aX, xs), (.u64, aR, rs)] [] []))
        case first =>
          cases g with
          | false =>
            go_wp2_with (go_at_call 13; refine ((hmy _).out).mono ?_; rintro e w3 ⟨rfl, hb⟩; have F3 := Lib.hid (F2.out.next hb); clear hb d0_0 d0_1 d0_2 d0_3 d0_4 d0_5 d0_6 d0_7 d0_8 d0_9; have e0_0 := F3.out.c 0 0 rfl rfl; have e0_1 := F3.out.c 0 1 rfl rfl; have e0_2 := F3.out.c 0 2 rfl rfl; have e0_3 := F3.out.c 0 3 rfl rfl; have e0_4 := F3.out.c 0 4 rfl rfl; have e0_5 := F3.out.c 0 5 rfl rfl; have e0_6 := F3.out.c 0 6 rfl rfl; have e0_7 := F3.out.c 0 7 rfl rfl; have e0_8 := F3.out.c 0 8 rfl rfl; have e0_9 := F3.out.c 0 9 rfl rfl)
            go_meet
            exact ⟨true, rfl, Lib.hid (by simp [sOk, HG.out]), F3⟩
          | true =>
            by_cases h1 : m < 1
            · skip
              go_wp2_with (go_at_call 13; refine ((hmy _).out).mono ?_; rintro e w3 ⟨rfl, hb⟩; have F3 := Lib.hid (F2.out.next hb); clear hb d0_0 d0_1 d0_2 d0_3 d0_4 d0_5 d0_6 d0_7 d0_8 d0_9; have e0_0 := F3.out.c 0 0 rfl rfl; have e0_1 := F3.out.c 0 1 rfl rfl; have e0_2 := F3.out.c 0 2 rfl rfl; have e0_3 := F3.out.c 0 3 rfl rfl; have e0_4 := F3.out.c 0 4 rfl rfl; have e0_5 := F3.out.c 0 5 rfl rfl; have e0_6 := F3.out.c 0 6 rfl rfl; have e0_7 := F3.out.c 0 7 rfl rfl; have e0_8 := F3.out.c 0 8 rfl rfl; have e0_9 := F3.out.c 0 9 rfl rfl)
              go_meet
              exact ⟨true, rfl, Lib.hid (by have : ¬ 1 ≤ m := by omega
                                            simp [sOk, this]), F3⟩
            · by_cases h2 : 1024 < m
              · skip
                go_wp2_with (go_at_call 13; refine ((hmy _).out).mono ?_; rintro e w3 ⟨rfl, hb⟩; have F3 := Lib.hid (F2.out.next hb); clear hb d0_0 d0_1 d0_2 d0_3 d0_4 d0_5 d0_6 d0_7 d0_8 d0_9; have e0_0 := F3.out.c 0 0 rfl rfl; have e0_1 := F3.out.c 0 1 rfl rfl; have e0_2 := F3.out.c 0 2 rfl rfl; have e0_3 := F3.out.c 0 3 rfl rfl; have e0_4 := F3.out.c 0 4 rfl rfl; have e0_5 := F3.out.c 0 5 rfl rfl; have e0_6 := F3.out.c 0 6 rfl rfl; have e0_7 := F3.out.c 0 7 rfl rfl; have e0_8 := F3.out.c 0 8 rfl rfl; have e0_9 := F3.out.c 0 9 rfl rfl)
                go_meet
                exact ⟨true, rfl, Lib.hid (by have : ¬ m ≤ 1024 := by omega
                                              simp [sOk, this]), F3⟩
              · skip
                go_wp2_with (go_at_call 13; refine ((hmy _).out).mono ?_; rintro e w3 ⟨rfl, hb⟩; have F3 := Lib.hid (F2.out.next hb); clear hb d0_0 d0_1 d0_2 d0_3 d0_4 d0_5 d0_6 d0_7 d0_8 d0_9; have e0_0 := F3.out.c 0 0 rfl rfl; have e0_1 := F3.out.c 0 1 rfl rfl; have e0_2 := F3.out.c 0 2 rfl rfl; have e0_3 := F3.out.c 0 3 rfl rfl; have e0_4 := F3.out.c 0 4 rfl rfl; have e0_5 := F3.out.c 0 5 rfl rfl; have e0_6 := F3.out.c 0 6 rfl rfl; have e0_7 := F3.out.c 0 7 rfl rfl; have e0_8 := F3.out.c 0 8 rfl rfl; have e0_9 := F3.out.c 0 9 rfl rfl)
                go_meet
                exact ⟨_, rfl, Lib.hid (by rw [sOk_iff.2 ⟨HG.out, by omega, by omega⟩]; simp; omega), F3⟩
        case rest =>
          obtain ⟨q1, rfl, HQ1, FX⟩ := hcut
          clear F2 d0_0 d0_1 d0_2 d0_3 d0_4 d0_5 d0_6 d0_7 d0_8 d0_9
          have x0_0 := FX.out.c 0 0 rfl rfl
          have x0_1 := FX.out.c 0 1 rfl rfl
          have x0_2 := FX.out.c 0 2 rfl rfl
          have x0_3 := FX.out.c 0 3 rfl rfl
          have x0_4 := FX.out.c 0 4 rfl rfl
          have x0_5 := FX.out.c 0 5 rfl rfl
          have x0_6 := FX.out.c 0 6 rfl rfl
          have x0_7 := FX.out.c 0 7 rfl rfl
          have x0_8 := FX.out.c 0 8 rfl rfl
          have x0_9 := FX.out.c 0 9 rfl rfl
          go_upto_if 50 with fail
          go_cut [5] from 50 to 50 (fun s5 wx => s5 = .int .i64 (sE rs s m) ∧ wx = wc)
          case first =>
            cases q1 with
            | true =>
              have HE : Hid (sE rs s m = 1) := Lib.hid (by have := HQ1.out; simp at this; simp [sE, this])
              go_wp2
              go_meet
              exact ⟨by rw [HE.out], rfl⟩
            | false =>
              have HE : Hid (sE rs s m = 0) := Lib.hid (by have := HQ1.out; simp at this; simp [sE, this])
              go_wp2
              go_meet
              exact ⟨by rw [HE.out], rfl⟩
          case rest =>
            obtain ⟨rfl, rfl⟩ := hcut
            obtain ⟨mc, hmc⟩ : ∃ mc, mayC xs at_ ep m = mc := ⟨_, rfl⟩
            have HMC := Lib.hid hmc
            have hmay := fun W (h : Ints .i64 W wo.heap.size aX xs) (hh : wo.heap.size ≤ W.heap.size) => Lib.hid (may30_any aX cX wo.heap.size xs at_ ep m W h hh)
            rw [hmc] at hmay
            clear hmc
            obtain ⟨eS, heS⟩ : ∃ x, sE rs s m = x := ⟨_, rfl⟩
            rw [heS]
            have HES := Lib.hid heS
            clear heS
            go_upto_if 56 with (go_at_call 49; refine ((hmay _ (FX.out.l 0 rfl) FX.out.hlo).out).mono ?_; rintro e w4 ⟨rfl, hb⟩; have F4 := Lib.hid (FX.out.next hb); clear hb x0_0 x0_1 x0_2 x0_3 x0_4 x0_5 x0_6 x0_7 x0_8 x0_9; have y0_0 := F4.out.c 0 0 rfl rfl; have y0_1 := F4.out.c 0 1 rfl rfl; have y0_2 := F4.out.c 0 2 rfl rfl; have y0_3 := F4.out.c 0 3 rfl rfl; have y0_4 := F4.out.c 0 4 rfl rfl; have y0_5 := F4.out.c 0 5 rfl rfl; have y0_6 := F4.out.c 0 6 rfl rfl; have y0_7 := F4.out.c 0 7 rfl rfl; have y0_8 := F4.out.c 0 8 rfl rfl; have y0_9 := F4.out.c 0 9 rfl rfl)
            go_cut [6] from 56 to 56 (fun s6 wx => ∃ bv : Int, s6 = .int .i64 bv ∧ Hid ((if mayC xs at_ ep m = true then (0 : Int) else 1) = bv) ∧ wx = w4)
            case first =>
              cases mc with
              | true =>
                go_wp2
                go_meet
                exact ⟨0, rfl, Lib.hid (by rw [HMC.out]; rfl), rfl⟩
              | false =>
                go_wp2
                go_meet
                exact ⟨1, rfl, Lib.hid (by rw [HMC.out]; rfl), rfl⟩
            case rest =>
              obtain ⟨bv, rfl, HBV, rfl⟩ := hcut
              go_upto_region 14 with fail
              go_cut [71] from 57 to 71 (fun s71 wx => ∃ q : Bool, s71 = .bool q ∧ Hid (q = !(goodR rs.length s && (decide (1 ≤ z) && decide (z ≤ 4096)))) ∧ Hid (Fr wo.heap.size wo wx [(wo.heap.size, [.slice aX xs.length cX, .int .i64 at_, .int .i64 ep, .slice aR rs.length cR, .int .u64 (s.a : Nat), .int .u64 (s.b : Nat), .int .u64 (s.c : Nat), .int .u64 (s.d : Nat), .int .i64 m, .int .i64 z])] [(.i64, aX, xs), (.u64, aR, rs)] [] []))
              case first =>
                cases g with
                | false =>
                  go_wp2_with (go_at_call 13; refine ((hmy _).out).mono ?_; rintro e w5 ⟨rfl, hb⟩; have F5 := Lib.hid (F4.out.next hb); clear hb y0_0 y0_1 y0_2 y0_3 y0_4 y0_5 y0_6 y0_7 y0_8 y0_9; have e0_0 := F5.out.c 0 0 rfl rfl; have e0_1 := F5.out.c 0 1 rfl rfl; have e0_2 := F5.out.c 0 2 rfl rfl; have e0_3 := F5.out.c 0 3 rfl rfl; have e0_4 := F5.out.c 0 4 rfl rfl; have e0_5 := F5.out.c 0 5 rfl rfl; have e0_6 := F5.out.c 0 6 rfl rfl; have e0_7 := F5.out.c 0 7 rfl rfl; have e0_8 := F5.out.c 0 8 rfl rfl; have e0_9 := F5.out.c 0 9 rfl rfl)
                  go_meet
                  exact ⟨true, rfl, Lib.hid (by simp [HG.out]), F5⟩
                | true =>
                  by_cases h1 : z < 1
                  · skip
                    go_wp2_with (go_at_call 13; refine ((hmy _).out).mono ?_; rintro e w5 ⟨rfl, hb⟩; have F5 := Lib.hid (F4.out.next hb); clear hb y0_0 y0_1 y0_2 y0_3 y0_4 y0_5 y0_6 y0_7 y0_8 y0_9; have e0_0 := F5.out.c 0 0 rfl rfl; have e0_1 := F5.out.c 0 1 rfl rfl; have e0_2 := F5.out.c 0 2 rfl rfl; have e0_3 := F5.out.c 0 3 rfl rfl; have e0_4 := F5.out.c 0 4 rfl rfl; have e0_5 := F5.out.c 0 5 rfl rfl; have e0_6 := F5.out.c 0 6 rfl rfl; have e0_7 := F5.out.c 0 7 rfl rfl; have e0_8 := F5.out.c 0 8 rfl rfl; have e0_9 := F5.out.c 0 9 rfl rfl)
                    go_meet
                    exact ⟨true, rfl, Lib.hid (by have : ¬ 1 ≤ z := by omega
                                                  simp [this]), F5⟩
                  · by_cases h2 : 4096 < z
                    · skip
                      go_wp2_with (go_at_call 13; refine ((hmy _).out).mono ?_; rintro e w5 ⟨rfl, hb⟩; have F5 := Lib.hid (F4.out.next hb); clear hb y0_0 y0_1 y0_2 y0_3 y0_4 y0_5 y0_6 y0_7 y0_8 y0_9; have e0_0 := F5.out.c 0 0 rfl rfl; have e0_1 := F5.out.c 0 1 rfl rfl; have e0_2 := F5.out.c 0 2 rfl rfl; have e0_3 := F5.out.c 0 3 rfl rfl; have e0_4 := F5.out.c 0 4 rfl rfl; have e0_5 := F5.out.c 0 5 rfl rfl; have e0_6 := F5.out.c 0 6 rfl rfl; have e0_7 := F5.out.c 0 7 rfl rfl; have e0_8 := F5.out.c 0 8 rfl rfl; have e0_9 := F5.out.c 0 9 rfl rfl)
                      go_meet
                      exact ⟨true, rfl, Lib.hid (by have : ¬ z ≤ 4096 := by omega
                                                    simp [this]), F5⟩
                    · skip
                      go_wp2_with (go_at_call 13; refine ((hmy _).out).mono ?_; rintro e w5 ⟨rfl, hb⟩; have F5 := Lib.hid (F4.out.next hb); clear hb y0_0 y0_1 y0_2 y0_3 y0_4 y0_5 y0_6 y0_7 y0_8 y0_9; have e0_0 := F5.out.c 0 0 rfl rfl; have e0_1 := F5.out.c 0 1 rfl rfl; have e0_2 := F5.out.c 0 2 rfl rfl; have e0_3 := F5.out.c 0 3 rfl rfl; have e0_4 := F5.out.c 0 4 rfl rfl; have e0_5 := F5.out.c 0 5 rfl rfl; have e0_6 := F5.out.c 0 6 rfl rfl; have e0_7 := F5.out.c 0 7 rfl rfl; have e0_8 := F5.out.c 0 8 rfl rfl; have e0_9 := F5.out.c 0 9 rfl rfl)
                      go_meet
                      exact ⟨_, rfl, Lib.hid (by rw [HG.out]; have e1 : 1 ≤ z := by omega
                                                 have e2 : z ≤ 4096 := by omega
                                                 simp [e1, e2]; try omega), F5⟩
              case rest =>
                obtain ⟨q2, rfl, HQ2, FY⟩ := hcut
                clear FX F4 y0_0 y0_1 y0_2 y0_3 y0_4 y0_5 y0_6 y0_7 y0_8 y0_9
                go_upto_if 71 with fail
                go_cut [7] from 71 to 71 (fun s7 wx => ∃ cv : Int, s7 = .int .i64 cv ∧ Hid ((if nOk xs at_ ep rs s m z = true then (0 : Int) else 1) = cv) ∧ wx = wc)
                case first =>
                  cases q2 with
                  | true =>
                    have HE : Hid (nOk xs at_ ep rs s m z = false) := Lib.hid (by have := HQ2.out; simp at this; unfold nOk; simp only [Bool.and_eq_false_iff, decide_eq_false_iff_not]; cases hgr : goodR rs.length s <;> simp [hgr] at this ⊢; exact .inr this)
                    go_wp2
                    go_meet
                    exact ⟨1, rfl, Lib.hid (by rw [HE.out]; rfl), rfl⟩
                  | false =>
                    have HE : Hid (nOk xs at_ ep rs s m z = mayC xs at_ ep m) := Lib.hid (by have := HQ2.out; unfold nOk; rw [show (goodR rs.length s && (decide (1 ≤ z) && decide (z ≤ 4096))) = true by simpa using this.symm]; simp)
                    go_wp2
                    go_meet
                    exact ⟨bv, rfl, Lib.hid (by rw [HE.out]; exact HBV.out), rfl⟩
                case rest =>
                  obtain ⟨cv, rfl, HCV, rfl⟩ := hcut
                  go_upto_if 73 with fail
                  obtain ⟨T, hT⟩ : ∃ T, wc.heap.size = T := ⟨_, rfl⟩
                  rw [hT]
                  have FA := Lib.hid ((((FY.out.box1 (b := T) (by simp [hT]) [.slice none 0 0, .int .i64 0, .int .i64 0] 73).box1 (b := T + 1) (by simp [hT]) [.slice none 0 0, .int .i64 0, .int .i64 0] 73).box1 (b := T + 1 + 1) (by simp [hT]) [.slice none 0 0, .int .u64 0, .int .u64 0, .int .u64 0, .int .u64 0] 27).box1 (b := T + 1 + 1 + 1) (by simp [hT]) [.slice none 0 0, .int .u64 0, .int .u64 0, .int .u64 0, .int .u64 0] 27)
                  simp only [List.nil_append, List.cons_append] at FA
                  obtain ⟨WA, hWA⟩ : ∃ WA, ((((wc.alloc (.cells #[.slice none 0 0, .int .i64 0, .int .i64 0] 73)).alloc (.cells #[.slice none 0 0, .int .i64 0, .int .i64 0] 73)).alloc (.cells #[.slice none 0 0, .int .u64 0, .int .u64 0, .int .u64 0, .int .u64 0] 27)).alloc (.cells #[.slice none 0 0, .int .u64 0, .int .u64 0, .int .u64 0, .int .u64 0] 27)) = WA := ⟨_, rfl⟩
                  rw [hWA] at FA ⊢
                  clear hWA hT FY
                  have c0_0 := FA.out.c 0 0 rfl rfl
                  have c0_1 := FA.out.c 0 1 rfl rfl
                  have c0_2 := FA.out.c 0 2 rfl rfl
                  have c0_3 := FA.out.c 0 3 rfl rfl
                  have c0_4 := FA.out.c 0 4 rfl rfl
                  have c0_5 := FA.out.c 0 5 rfl rfl
                  have c0_6 := FA.out.c 0 6 rfl rfl
                  have c0_7 := FA.out.c 0 7 rfl rfl
                  have c0_8 := FA.out.c 0 8 rfl rfl
                  have c0_9 := FA.out.c 0 9 rfl rfl
                  go_cut [] from 73 to 81 (fun wx => ∃ ax cx ar cr, Hid (Fr wo.heap.size wo wx [(wo.heap.size, [.slice aX xs.length cX, .int .i64 at_, .int .i64 ep, .slice aR rs.length cR, .int .u64 (s.a : Nat), .int .u64 (s.b : Nat), .int .u64 (s.c : Nat), .int .u64 (s.d : Nat), .int .i64 m, .int .i64 z]), (T, [.slice ax (sL rs s m).length cx, .int .i64 0, .int .i64 0]), (T + 1, [.slice none 0 0, .int .i64 0, .int .i64 0]), (T + 1 + 1, [.slice ar (sR rs s m).length cr, .int .u64 ((sS rs s m).a : Nat), .int .u64 ((sS rs s m).b : Nat), .int .u64 ((sS rs s m).c : Nat), .int .u64 ((sS rs s m).d : Nat)]), (T + 1 + 1 + 1, [.slice none 0 0, .int .u64 0, .int .u64 0, .int .u64 0, .int .u64 0])] [(.i64, aX, xs), (.u64, aR, rs), (.u64, ar, (sR rs s m))] [⟨3, .slice ax (sL rs s m).length cx, (sL rs s m).length, (sL rs s m).map (Value.int .i64)⟩] []))
                  case first =>
                    have hrs := Lib.hid (fun W (h : wo.heap.size ≤ W.heap.size) (h2 : Ints .u64 W wo.heap.size aR rs) => rstart_all wo.heap.size aR cR rs s m W hok.out h h2 HCC.out)
                    cases hso : sOk rs s m with
                    | true =>
                      have hE : eS = 0 := by rw [← HES.out, sE, if_pos hso]
                      subst hE
                      have HSO := Lib.hid hso
                      clear hso
                      have t1_0 := FA.out.c 1 0 rfl rfl
                      have t1_1 := FA.out.c 1 1 rfl rfl
                      have t1_2 := FA.out.c 1 2 rfl rfl
                      have t3_0 := FA.out.c 3 0 rfl rfl
                      have t3_1 := FA.out.c 3 1 rfl rfl
                      have t3_2 := FA.out.c 3 2 rfl rfl
                      have t3_3 := FA.out.c 3 3 rfl rfl
                      have t3_4 := FA.out.c 3 4 rfl rfl
                      have tf1_0 := FA.out.f 1 0 rfl rfl
                      have tf1_1 := FA.out.f 1 1 rfl rfl
                      have tf1_2 := FA.out.f 1 2 rfl rfl
                      have tf3_0 := FA.out.f 3 0 rfl rfl
                      have tf3_1 := FA.out.f 3 1 rfl rfl
                      have tf3_2 := FA.out.f 3 2 rfl rfl
                      have tf3_3 := FA.out.f 3 3 rfl rfl
                      have tf3_4 := FA.out.f 3 4 rfl rfl
                      go_wp2_with (go_at_call 56; refine ((hrs.out _ FA.out.hlo (FA.out.l 1 rfl) HSO.out)).mono ?_; rintro e w6 ⟨ax, cx, ar, cr, rfl, hfr, hir, _, _⟩; have F6 := Lib.hid ((FA.out.join hfr).addI hir); simp only [List.nil_append, List.cons_append] at F6; clear hfr hir c0_0 c0_1 c0_2 c0_3 c0_4 c0_5 c0_6 c0_7 c0_8 c0_9 t1_0 t1_1 t1_2 t3_0 t3_1 t3_2 t3_3 t3_4 tf1_0 tf1_1 tf1_2 tf3_0 tf3_1 tf3_2 tf3_3 tf3_4; have d0_0 := F6.out.c 0 0 rfl rfl; have d0_1 := F6.out.c 0 1 rfl rfl; have d0_2 := F6.out.c 0 2 rfl rfl; have d0_3 := F6.out.c 0 3 rfl rfl; have d0_4 := F6.out.c 0 4 rfl rfl; have d0_5 := F6.out.c 0 5 rfl rfl; have d0_6 := F6.out.c 0 6 rfl rfl; have d0_7 := F6.out.c 0 7 rfl rfl; have d0_8 := F6.out.c 0 8 rfl rfl; have d0_9 := F6.out.c 0 9 rfl rfl; have d1_0 := F6.out.c 1 0 rfl rfl; have d1_1 := F6.out.c 1 1 rfl rfl; have d1_2 := F6.out.c 1 2 rfl rfl; have d3_0 := F6.out.c 3 0 rfl rfl; have d3_1 := F6.out.c 3 1 rfl rfl; have d3_2 := F6.out.c 3 2 rfl rfl; have d3_3 := F6.out.c 3 3 rfl rfl; have d3_4 := F6.out.c 3 4 rfl rfl; have df1_0 := F6.out.f 1 0 rfl rfl; have df1_1 := F6.out.f 1 1 rfl rfl; have df1_2 := F6.out.f 1 2 rfl rfl; have df3_0 := F6.out.f 3 0 rfl rfl; have df3_1 := F6.out.f 3 1 rfl rfl; have df3_2 := F6.out.f 3 2 rfl rfl; have df3_3 := F6.out.f 3 3 rfl rfl; have df3_4 := F6.out.f 3 4 rfl rfl)
                      go_meet
                      exact ⟨ax, cx, ar, cr, Lib.hid ((F6.out.set 1 rfl (by simp) [.slice ax (sL rs s m).length cx, .int .i64 0, .int .i64 0] rfl).set 3 rfl (by simp) [.slice ar (sR rs s m).length cr, .int .u64 ((sS rs s m).a : Nat), .int .u64 ((sS rs s m).b : Nat), .int .u64 ((sS rs s m).c : Nat), .int .u64 ((sS rs s m).d : Nat)] rfl)⟩
                    | false =>
                      have hE : eS = 1 := by rw [← HES.out, sE, if_neg (by rw [hso]; simp)]
                      subst hE
                      have HSO := Lib.hid hso
                      clear hso
                      go_wp2
                      go_meet
                      have eL : sL rs s m = [] := by rw [sL, if_neg (by rw [HSO.out]; simp)]
                      have eR : sR rs s m = [] := by rw [sR, if_neg (by rw [HSO.out]; simp)]
                      have eT : sS rs s m = St.nil := by rw [sS, if_neg (by rw [HSO.out]; simp)]
                      refine ⟨none, 0, none, 0, Lib.hid ?_⟩
                      rw [eL, eR, eT]
                      exact (FA.out.addNil _).addI (Ints.nil _ _ _ _)
                  case rest =>
                    obtain ⟨ax, cx, ar, cr, FB⟩ := hcut
                    clear FA c0_0 c0_1 c0_2 c0_3 c0_4 c0_5 c0_6 c0_7 c0_8 c0_9
                    have c0_0 := FB.out.c 0 0 rfl rfl
                    have c0_1 := FB.out.c 0 1 rfl rfl
                    have c0_2 := FB.out.c 0 2 rfl rfl
                    have c0_3 := FB.out.c 0 3 rfl rfl
                    have c0_4 := FB.out.c 0 4 rfl rfl
                    have c0_5 := FB.out.c 0 5 rfl rfl
                    have c0_6 := FB.out.c 0 6 rfl rfl
                    have c0_7 := FB.out.c 0 7 rfl rfl
                    have c0_8 := FB.out.c 0 8 rfl rfl
                    have c0_9 := FB.out.c 0 9 rfl rfl
                    go_upto_if 83 with fail
                    go_cut [7, 12] from 83 to 97 (fun s7 s12 wx => ∃ ai ci ay cy ap cp, s7 = .int .i64 (nE xs at_ ep rs s m z) ∧ s12 = .slice ai (nI xs at_ ep rs s m z).length ci ∧ Hid (Fr wo.heap.size wo wx [(wo.heap.size, [.slice aX xs.length cX, .int .i64 at_, .int .i64 ep, .slice aR rs.length cR, .int .u64 (s.a : Nat), .int .u64 (s.b : Nat), .int .u64 (s.c : Nat), .int .u64 (s.d : Nat), .int .i64 m, .int .i64 z]), (T, [.slice ax (sL rs s m).length cx, .int .i64 0, .int .i64 0]), (T + 1, [.slice ay (nO xs at_ ep rs s m z).length cy, .int .i64 (nA xs at_ ep rs s m z), .int .i64 (nP xs at_ ep rs s m z)]), (T + 1 + 1, [.slice ar (sR rs s m).length cr, .int .u64 ((sS rs s m).a : Nat), .int .u64 ((sS rs s m).b : Nat), .int .u64 ((sS rs s m).c : Nat), .int .u64 ((sS rs s m).d : Nat)]), (T + 1 + 1 + 1, [.slice ap (nR xs at_ ep rs s m z).length cp, .int .u64 ((nS xs at_ ep rs s m z).a : Nat), .int .u64 ((nS xs at_ ep rs s m z).b : Nat), .int .u64 ((nS xs at_ ep rs s m z).c : Nat), .int .u64 ((nS xs at_ ep rs s m z).d : Nat)])] [(.i64, aX, xs), (.u64, aR, rs), (.u64, ar, (sR rs s m)), (.u64, ap, (nR xs at_ ep rs s m z))] [⟨3, .slice ax (sL rs s m).length cx, (sL rs s m).length, (sL rs s m).map (Value.int .i64)⟩, ⟨3, .slice ay (nO xs at_ ep rs s m z).length cy, (nO xs at_ ep rs s m z).length, (nO xs at_ ep rs s m z).map (Value.int .i64)⟩, ⟨3, .slice ai (nI xs at_ ep rs s m z).length ci, (nI xs at_ ep rs s m z).length, (nI xs at_ ep rs s m z).map (Value.int .i64)⟩] []))
                    case first =>
                      have hrn := Lib.hid (fun W (h1 : Ints .i64 W W.heap.size aX xs) (h : wo.heap.size ≤ W.heap.size) (h2 : Ints .u64 W wo.heap.size aR rs) => rnext_all wo.heap.size aX aR cX cR xs rs s at_ ep m z W hok.out h1 h h2 HCC.out)
                      cases hno : nOk xs at_ ep rs s m z with
                      | true =>
                        have hE : cv = 0 := by rw [← HCV.out, if_pos hno]
                        subst hE
                        have HNO := Lib.hid hno
                        clear hno
                        have t2_0 := FB.out.c 2 0 rfl rfl
                        have t2_1 := FB.out.c 2 1 rfl rfl
                        have t2_2 := FB.out.c 2 2 rfl rfl
                        have t4_0 := FB.out.c 4 0 rfl rfl
                        have t4_1 := FB.out.c 4 1 rfl rfl
                        have t4_2 := FB.out.c 4 2 rfl rfl
                        have t4_3 := FB.out.c 4 3 rfl rfl
                        have t4_4 := FB.out.c 4 4 rfl rfl
                        have tf2_0 := FB.out.f 2 0 rfl rfl
                        have tf2_1 := FB.out.f 2 1 rfl rfl
                        have tf2_2 := FB.out.f 2 2 rfl rfl
                        have tf4_0 := FB.out.f 4 0 rfl rfl
                        have tf4_1 := FB.out.f 4 1 rfl rfl
                        have tf4_2 := FB.out.f 4 2 rfl rfl
                        have tf4_3 := FB.out.f 4 3 rfl rfl
                        have tf4_4 := FB.out.f 4 4 rfl rfl
                        go_wp2_with (go_at_call 57; refine ((hrn.out _ (FB.out.lw 0 rfl) FB.out.hlo (FB.out.l 1 rfl) HNO.out)).mono ?_; rintro e w7 ⟨ai, ci, ay, cy, ap, cp, rfl, hfr, hir, _, _⟩; have F7 := Lib.hid ((FB.out.join hfr).addI hir); simp only [List.nil_append, List.cons_append] at F7; clear hfr hir c0_0 c0_1 c0_2 c0_3 c0_4 c0_5 c0_6 c0_7 c0_8 c0_9 t2_0 t2_1 t2_2 t4_0 t4_1 t4_2 t4_3 t4_4 tf2_0 tf2_1 tf2_2 tf4_0 tf4_1 tf4_2 tf4_3 tf4_4; have d0_0 := F7.out.c 0 0 rfl rfl; have d0_1 := F7.out.c 0 1 rfl rfl; have d0_2 := F7.out.c 0 2 rfl rfl; have d0_3 := F7.out.c 0 3 rfl rfl; have d0_4 := F7.out.c 0 4 rfl rfl; have d0_5 := F7.out.c 0 5 rfl rfl; have d0_6 := F7.out.c 0 6 rfl rfl; have d0_7 := F7.out.c 0 7 rfl rfl; have d0_8 := F7.out.c 0 8 rfl rfl; have d0_9 := F7.out.c 0 9 rfl rfl; have d2_0 := F7.out.c 2 0 rfl rfl; have d2_1 := F7.out.c 2 1 rfl rfl; have d2_2 := F7.out.c 2 2 rfl rfl; have d4_0 := F7.out.c 4 0 rfl rfl; have d4_1 := F7.out.c 4 1 rfl rfl; have d4_2 := F7.out.c 4 2 rfl rfl; have d4_3 := F7.out.c 4 3 rfl rfl; have d4_4 := F7.out.c 4 4 rfl rfl; have df2_0 := F7.out.f 2 0 rfl rfl; have df2_1 := F7.out.f 2 1 rfl rfl; have df2_2 := F7.out.f 2 2 rfl rfl; have df4_0 := F7.out.f 4 0 rfl rfl; have df4_1 := F7.out.f 4 1 rfl rfl; have df4_2 := F7.out.f 4 2 rfl rfl; have df4_3 := F7.out.f 4 3 rfl rfl; have df4_4 := F7.out.f 4 4 rfl rfl)
                        go_meet
                        exact ⟨ai, ci, ay, cy, ap, cp, rfl, rfl, Lib.hid ((F7.out.set 2 rfl (by simp) [.slice ay (nO xs at_ ep rs s m z).length cy, .int .i64 (nA xs at_ ep rs s m z), .int .i64 (nP xs at_ ep rs s m z)] rfl).set 4 rfl (by simp) [.slice ap (nR xs at_ ep rs s m z).length cp, .int .u64 ((nS xs at_ ep rs s m z).a : Nat), .int .u64 ((nS xs at_ ep rs s m z).b : Nat), .int .u64 ((nS xs at_ ep rs s m z).c : Nat), .int .u64 ((nS xs at_ ep rs s m z).d : Nat)] rfl)⟩
                      | false =>
                        have hE : cv = 1 := by rw [← HCV.out, if_neg (by rw [hno]; simp)]
                        subst hE
                        have HNO := Lib.hid hno
                        clear hno
                        go_wp2
                        go_meet
                        have eE : nE xs at_ ep rs s m z = 1 := by rw [nE, if_neg (by rw [HNO.out]; simp)]
                        have e0 : ¬ nE xs at_ ep rs s m z = 0 := by rw [eE]; decide
                        have eI : nI xs at_ ep rs s m z = [] := by rw [nI, if_neg e0]
                        have eO : nO xs at_ ep rs s m z = [] := by rw [nO, if_neg e0]
                        have eA : nA xs at_ ep rs s m z = 0 := by rw [nA, if_neg e0]
                        have eP : nP xs at_ ep rs s m z = 0 := by rw [nP, if_neg e0]
                        have eR : nR xs at_ ep rs s m z = [] := by rw [nR, if_neg e0]
                        have eS2 : nS xs at_ ep rs s m z = St.nil := by rw [nS, if_neg e0]
                        refine ⟨none, 0, none, 0, none, 0, by rw [eE], by rw [eI]; rfl, Lib.hid ?_⟩
                        rw [eI, eO, eA, eP, eR, eS2]
                        exact ((FB.out.addNil _).addNil _).addI (Ints.nil _ _ _ _)
                    case rest =>
                      obtain ⟨ai, ci, ay, cy, ap, cp, rfl, rfl, FC⟩ := hcut
                      clear FB c0_0 c0_1 c0_2 c0_3 c0_4 c0_5 c0_6 c0_7 c0_8 c0_9
                      have hst := Lib.hid (fun a c (W : World) (h2 : Ints .u64 W W.heap.size a rs) (hc : rs.length ≤ c ∧ c ≤ 9223372036854775807) => start_all a c rs s m W hok.out h2 hc)
                      have hnx := Lib.hid (fun a c a2 c2 (W : World) (h1 : Ints .i64 W W.heap.size a xs) (h2 : Ints .u64 W W.heap.size a2 rs) (hc : rs.length ≤ c2 ∧ c2 ≤ 9223372036854775807) => next_all a a2 c c2 xs rs s at_ ep m z W hok.out h1 h2 hc)
                      have wL := Lib.hid (sL_wf (rs := rs) (s := s) (n := m))
                      have wR := Lib.hid (sR_wf (rs := rs) (s := s) (n := m) hok.out HWR.out)
                      have wI := Lib.hid (nI_wf (xs := xs) (at_ := at_) (ep := ep) (rs := rs) (s := s) (n := m) (z := z))
                      have wO := Lib.hid (nO_wf (xs := xs) (at_ := at_) (ep := ep) (rs := rs) (s := s) (n := m) (z := z))
                      have wN := Lib.hid (nR_wf (xs := xs) (at_ := at_) (ep := ep) (rs := rs) (s := s) (n := m) (z := z) hok.out HWR.out)
                      have lL := sL_len (rs := rs) (s := s) (n := m)
                      have lI := nI_len (xs := xs) (at_ := at_) (ep := ep) (rs := rs) (s := s) (n := m) (z := z)
                      have lO := nO_len (xs := xs) (at_ := at_) (ep := ep) (rs := rs) (s := s) (n := m) (z := z)
                      generalize sL rs s m = L0 at FC hst hnx wL wR wI wO wN lL lI lO ⊢
                      generalize sR rs s m = R0 at FC hst hnx wL wR wI wO wN lL lI lO ⊢
                      generalize sS rs s m = S0 at FC hst hnx wL wR wI wO wN lL lI lO ⊢
                      generalize nI xs at_ ep rs s m z = NI at FC hst hnx wL wR wI wO wN lL lI lO ⊢
                      generalize nO xs at_ ep rs s m z = NO at FC hst hnx wL wR wI wO wN lL lI lO ⊢
                      generalize nA xs at_ ep rs s m z = NA at FC hst hnx wL wR wI wO wN lL lI lO ⊢
                      generalize nP xs at_ ep rs s m z = NP at FC hst hnx wL wR wI wO wN lL lI lO ⊢
                      generalize nR xs at_ ep rs s m z = NR at FC hst hnx wL wR wI wO wN lL lI lO ⊢
                      generalize nS xs at_ ep rs s m z = NS at FC hst hnx wL wR wI wO wN lL lI lO ⊢
                      generalize nE xs at_ ep rs s m z = NE at FC hst hnx wL wR wI wO wN lL lI lO ⊢
                      rw [HES.out] at hst
                      have c0_0 := FC.out.c 0 0 rfl rfl
                      have c0_1 := FC.out.c 0 1 rfl rfl
                      have c0_2 := FC.out.c 0 2 rfl rfl
                      have c0_3 := FC.out.c 0 3 rfl rfl
                      have c0_4 := FC.out.c 0 4 rfl rfl
                      have c0_5 := FC.out.c 0 5 rfl rfl
                      have c0_6 := FC.out.c 0 6 rfl rfl
                      have c0_7 := FC.out.c 0 7 rfl rfl
                      have c0_8 := FC.out.c 0 8 rfl rfl
                      have c0_9 := FC.out.c 0 9 rfl rfl
                      have hcc := Lib.hid (fun W (h : Ints .i64 W W.heap.size aX xs) => copyCursor_any aX cX xs at_ ep W h (by omega))
                      go_upto_region 24 with (go_at_call 55; refine ((hcc.out _ (FC.out.lw 0 rfl))).mono ?_; rintro e w10 ⟨ak, ck, rfl, hfr⟩; have FD := Lib.hid (FC.out.join hfr); simp only [List.nil_append, List.cons_append] at FD; clear hfr FC c0_0 c0_1 c0_2 c0_3 c0_4 c0_5 c0_6 c0_7 c0_8 c0_9)
                      obtain ⟨K, hK⟩ : ∃ x, w10.heap.size = x := ⟨_, rfl⟩
                      rw [hK]
                      have FE := Lib.hid (FD.out.box1 (b := K) (by simp [hK]) [.slice ak xs.length ck, .int .i64 at_, .int .i64 ep] 73)
                      simp only [List.nil_append, List.cons_append] at FE
                      obtain ⟨WE, hWE⟩ : ∃ x, (w10.alloc (.cells #[.slice ak xs.length ck, .int .i64 at_, .int .i64 ep] 73)) = x := ⟨_, rfl⟩
                      rw [hWE] at FE ⊢
                      clear hWE hK FD
                      have c0_0 := FE.out.c 0 0 rfl rfl
                      have c0_1 := FE.out.c 0 1 rfl rfl
                      have c0_2 := FE.out.c 0 2 rfl rfl
                      have c0_3 := FE.out.c 0 3 rfl rfl
                      have c0_4 := FE.out.c 0 4 rfl rfl
                      have c0_5 := FE.out.c 0 5 rfl rfl
                      have c0_6 := FE.out.c 0 6 rfl rfl
                      have c0_7 := FE.out.c 0 7 rfl rfl
                      have c0_8 := FE.out.c 0 8 rfl rfl
                      have c0_9 := FE.out.c 0 9 rfl rfl
                      go_upto_region 25 with (go_at_call 54; refine ((hst.out _ _ _ (FE.out.lw 1 rfl) HCC.out)).mono ?_; rintro e w11 ⟨au, cu, aw, cw, rfl, hfr⟩; have FF := Lib.hid (FE.out.join hfr); simp only [List.nil_append, List.cons_append] at FF; clear hfr FE c0_0 c0_1 c0_2 c0_3 c0_4 c0_5 c0_6 c0_7 c0_8 c0_9)
                      obtain ⟨U, hU⟩ : ∃ x, w11.heap.size = x := ⟨_, rfl⟩
                      rw [hU]
                      have FG := Lib.hid ((FF.out.box1 (b := U) (by simp [hU]) [.slice au L0.length cu, .int .i64 0, .int .i64 0] 73).box1 (b := U + 1) (by simp [hU]) [.slice aw R0.length cw, .int .u64 (S0.a : Nat), .int .u64 (S0.b : Nat), .int .u64 (S0.c : Nat), .int .u64 (S0.d : Nat)] 27)
                      simp only [List.nil_append, List.cons_append] at FG
                      obtain ⟨WG, hWG⟩ : ∃ x, ((w11.alloc (.cells #[.slice au L0.length cu, .int .i64 0, .int .i64 0] 73)).alloc (.cells #[.slice aw R0.length cw, .int .u64 (S0.a : Nat), .int .u64 (S0.b : Nat), .int .u64 (S0.c : Nat), .int .u64 (S0.d : Nat)] 27)) = x := ⟨_, rfl⟩
                      rw [hWG] at FG ⊢
                      clear hWG hU FF
                      have c0_0 := FG.out.c 0 0 rfl rfl
                      have c0_1 := FG.out.c 0 1 rfl rfl
                      have c0_2 := FG.out.c 0 2 rfl rfl
                      have c0_3 := FG.out.c 0 3 rfl rfl
                      have c0_4 := FG.out.c 0 4 rfl rfl
                      have c0_5 := FG.out.c 0 5 rfl rfl
                      have c0_6 := FG.out.c 0 6 rfl rfl
                      have c0_7 := FG.out.c 0 7 rfl rfl
                      have c0_8 := FG.out.c 0 8 rfl rfl
                      have c0_9 := FG.out.c 0 9 rfl rfl
                      have c5_0 := FG.out.c 5 0 rfl rfl
                      have c5_1 := FG.out.c 5 1 rfl rfl
                      have c5_2 := FG.out.c 5 2 rfl rfl
                      go_upto_region 26 with (go_at_call 50; refine ((hnx.out _ _ _ _ _ (FG.out.li 3 (k := .i64) (xs := xs) rfl HX.out.wf) (FG.out.lw 1 rfl) HCC.out)).mono ?_; rintro e w12 ⟨an, cn, av, cv2, ag, cg, rfl, hfr⟩; have FH := Lib.hid (FG.out.join hfr); simp only [List.nil_append, List.cons_append] at FH; clear hfr FG c0_0 c0_1 c0_2 c0_3 c0_4 c0_5 c0_6 c0_7 c0_8 c0_9 c5_0 c5_1 c5_2)
                      obtain ⟨V, hV⟩ : ∃ x, w12.heap.size = x := ⟨_, rfl⟩
                      rw [hV]
                      have G0 := Lib.hid ((FH.out.box1 (b := V) (by simp [hV]) [.slice av NO.length cv2, .int .i64 NA, .int .i64 NP] 73).box1 (b := V + 1) (by simp [hV]) [.slice ag NR.length cg, .int .u64 (NS.a : Nat), .int .u64 (NS.b : Nat), .int .u64 (NS.c : Nat), .int .u64 (NS.d : Nat)] 27)
                      simp only [List.nil_append, List.cons_append] at G0
                      obtain ⟨W0, hW0⟩ : ∃ x, ((w12.alloc (.cells #[.slice av NO.length cv2, .int .i64 NA, .int .i64 NP] 73)).alloc (.cells #[.slice ag NR.length cg, .int .u64 (NS.a : Nat), .int .u64 (NS.b : Nat), .int .u64 (NS.c : Nat), .int .u64 (NS.d : Nat)] 27)) = x := ⟨_, rfl⟩
                      rw [hW0] at G0 ⊢
                      clear hW0 hV FH
                      have g0x0_0 := G0.out.c 0 0 rfl rfl
                      have g0x0_1 := G0.out.c 0 1 rfl rfl
                      have g0x0_2 := G0.out.c 0 2 rfl rfl
                      have g0x0_3 := G0.out.c 0 3 rfl rfl
                      have g0x0_4 := G0.out.c 0 4 rfl rfl
                      have g0x0_5 := G0.out.c 0 5 rfl rfl
                      have g0x0_6 := G0.out.c 0 6 rfl rfl
                      have g0x0_7 := G0.out.c 0 7 rfl rfl
                      have g0x0_8 := G0.out.c 0 8 rfl rfl
                      have g0x0_9 := G0.out.c 0 9 rfl rfl
                      have g0x5_0 := G0.out.c 5 0 rfl rfl
                      have g0x5_1 := G0.out.c 5 1 rfl rfl
                      have g0x5_2 := G0.out.c 5 2 rfl rfl
                      have hck := Lib.hid (fun (W : World) (h : Ints .i64 W W.heap.size ak xs) => check31_any ak ck W.heap.size xs at_ ep m W h (Nat.le_refl _))
                      rw [HBV.out] at hck
                      go_upto_region 28 with (first | (go_at_call 58; refine (hck.out _ (G0.out.li 3 (k := .i64) (xs := xs) rfl HX.out.wf)).mono ?_; rintro e w21 ⟨rfl, hb⟩; have G1 := Lib.hid (G0.out.next hb); clear hb g0x0_0 g0x0_1 g0x0_2 g0x0_3 g0x0_4 g0x0_5 g0x0_6 g0x0_7 g0x0_8 g0x0_9 g0x5_0 g0x5_1 g0x5_2; have g1x6_0 := G1.out.c 6 0 rfl rfl; have g1x6_1 := G1.out.c 6 1 rfl rfl; have g1x6_2 := G1.out.c 6 2 rfl rfl; have g1x1_0 := G1.out.c 1 0 rfl rfl; have g1x1_1 := G1.out.c 1 1 rfl rfl; have g1x1_2 := G1.out.c 1 2 rfl rfl) | (go_at_call 51; refine (num31_any _ _).mono ?_; rintro e w' ⟨rfl, rfl⟩) | (go_at_call 52; (with_reducible refine (eqCursor_same au ax cu cx L0 0 0 _ (G1.out.li 4 (k := .i64) (xs := L0) rfl wL.out) (G1.out.li 0 (k := .i64) (xs := L0) rfl wL.out)).mono ?_); rintro e w22 ⟨rfl, hb⟩; have G2 := Lib.hid (G1.out.next hb); clear hb g1x6_0 g1x6_1 g1x6_2 g1x1_0 g1x1_1 g1x1_2; have g2x7_0 := G2.out.c 7 0 rfl rfl; have g2x7_1 := G2.out.c 7 1 rfl rfl; have g2x7_2 := G2.out.c 7 2 rfl rfl; have g2x7_3 := G2.out.c 7 3 rfl rfl; have g2x7_4 := G2.out.c 7 4 rfl rfl; have g2x3_0 := G2.out.c 3 0 rfl rfl; have g2x3_1 := G2.out.c 3 1 rfl rfl; have g2x3_2 := G2.out.c 3 2 rfl rfl; have g2x3_3 := G2.out.c 3 3 rfl rfl; have g2x3_4 := G2.out.c 3 4 rfl rfl) | (go_at_call 18; (with_reducible refine (eqRand_same31 aw ar cw cr R0 S0 _ (G2.out.li 5 (k := .u64) (xs := R0) rfl wR.out) (G2.out.lw 2 rfl)).mono ?_); rintro e w23 ⟨rfl, hb⟩; have G3 := Lib.hid (G2.out.next hb); clear hb g2x7_0 g2x7_1 g2x7_2 g2x7_3 g2x7_4 g2x3_0 g2x3_1 g2x3_2 g2x3_3 g2x3_4; ) | (go_at_call 34; refine (eqNumbers_same an ai cn ci _ NI _ (G3.out.li 8 (k := .i64) (xs := NI) rfl wI.out) (G3.out.li 2 (k := .i64) (xs := NI) rfl wI.out)).mono ?_; rintro e w24 ⟨rfl, hb⟩; have G4 := Lib.hid (G3.out.next hb); clear hb ; have g4x8_0 := G4.out.c 8 0 rfl rfl; have g4x8_1 := G4.out.c 8 1 rfl rfl; have g4x8_2 := G4.out.c 8 2 rfl rfl; have g4x2_0 := G4.out.c 2 0 rfl rfl; have g4x2_1 := G4.out.c 2 1 rfl rfl; have g4x2_2 := G4.out.c 2 2 rfl rfl) | (go_at_call 52; (with_reducible refine (eqCursor_same av ay cv2 cy NO NA NP _ (G4.out.li 6 (k := .i64) (xs := NO) rfl wO.out) (G4.out.li 1 (k := .i64) (xs := NO) rfl wO.out)).mono ?_); rintro e w25 ⟨rfl, hb⟩; have G5 := Lib.hid (G4.out.next hb); clear hb g4x8_0 g4x8_1 g4x8_2 g4x2_0 g4x2_1 g4x2_2; have g5x9_0 := G5.out.c 9 0 rfl rfl; have g5x9_1 := G5.out.c 9 1 rfl rfl; have g5x9_2 := G5.out.c 9 2 rfl rfl; have g5x9_3 := G5.out.c 9 3 rfl rfl; have g5x9_4 := G5.out.c 9 4 rfl rfl; have g5x4_0 := G5.out.c 4 0 rfl rfl; have g5x4_1 := G5.out.c 4 1 rfl rfl; have g5x4_2 := G5.out.c 4 2 rfl rfl; have g5x4_3 := G5.out.c 4 3 rfl rfl; have g5x4_4 := G5.out.c 4 4 rfl rfl) | (go_at_call 18; (with_reducible refine (eqRand_same31 ag ap cg cp NR NS _ (G5.out.li 7 (k := .u64) (xs := NR) rfl wN.out) (G5.out.lw 3 rfl)).mono ?_); rintro e w26 ⟨rfl, hb⟩; have G6 := Lib.hid (G5.out.next hb); clear hb g5x9_0 g5x9_1 g5x9_2 g5x9_3 g5x9_4 g5x4_0 g5x4_1 g5x4_2 g5x4_3 g5x4_4; have g6x0_0 := G6.out.c 0 0 rfl rfl; have g6x0_1 := G6.out.c 0 1 rfl rfl; have g6x0_2 := G6.out.c 0 2 rfl rfl; have g6x0_3 := G6.out.c 0 3 rfl rfl; have g6x0_4 := G6.out.c 0 4 rfl rfl; have g6x0_5 := G6.out.c 0 5 rfl rfl; have g6x0_6 := G6.out.c 0 6 rfl rfl; have g6x0_7 := G6.out.c 0 7 rfl rfl; have g6x0_8 := G6.out.c 0 8 rfl rfl; have g6x0_9 := G6.out.c 0 9 rfl rfl; have g6x5_0 := G6.out.c 5 0 rfl rfl; have g6x5_1 := G6.out.c 5 1 rfl rfl; have g6x5_2 := G6.out.c 5 2 rfl rfl; have g6x6_0 := G6.out.c 6 0 rfl rfl; have g6x6_1 := G6.out.c 6 1 rfl rfl; have g6x6_2 := G6.out.c 6 2 rfl rfl; have g6x8_0 := G6.out.c 8 0 rfl rfl; have g6x8_1 := G6.out.c 8 1 rfl rfl; have g6x8_2 := G6.out.c 8 2 rfl rfl))
                      have lI2 : NI.length ≤ 17592186044415 := by omega
                      have lL2 : L0.length ≤ 17592186044415 := by omega
                      have lO2 : NO.length ≤ 17592186044415 := by omega
                      go_upto_region 29 with (go_at_call 42; go_loud (refine (numbers_any an cn wo.heap.size NI w26 (G6.out.r 8 rfl) lI2 G6.out.hlo).mono ?_; rintro e w27 ⟨rfl, hg, hb⟩; have G7 := Lib.hid (G6.out.spoil 8 rfl hg); simp only [List.eraseIdx_cons_zero, List.eraseIdx_cons_succ] at G7; clear hg hb g6x0_0 g6x0_1 g6x0_2 g6x0_3 g6x0_4 g6x0_5 g6x0_6 g6x0_7 g6x0_8 g6x0_9 g6x5_0 g6x5_1 g6x5_2 g6x6_0 g6x6_1 g6x6_2 g6x8_0 g6x8_1 g6x8_2; have g7x0_0 := G7.out.c 0 0 rfl rfl; have g7x0_1 := G7.out.c 0 1 rfl rfl; have g7x0_2 := G7.out.c 0 2 rfl rfl; have g7x0_3 := G7.out.c 0 3 rfl rfl; have g7x0_4 := G7.out.c 0 4 rfl rfl; have g7x0_5 := G7.out.c 0 5 rfl rfl; have g7x0_6 := G7.out.c 0 6 rfl rfl; have g7x0_7 := G7.out.c 0 7 rfl rfl; have g7x0_8 := G7.out.c 0 8 rfl rfl; have g7x0_9 := G7.out.c 0 9 rfl rfl; have g7x5_0 := G7.out.c 5 0 rfl rfl; have g7x5_1 := G7.out.c 5 1 rfl rfl; have g7x5_2 := G7.out.c 5 2 rfl rfl; have g7x6_0 := G7.out.c 6 0 rfl rfl; have g7x6_1 := G7.out.c 6 1 rfl rfl; have g7x6_2 := G7.out.c 6 2 rfl rfl; have g7x8_0 := G7.out.c 8 0 rfl rfl; have g7x8_1 := G7.out.c 8 1 rfl rfl; have g7x8_2 := G7.out.c 8 2 rfl rfl))
                      go_upto_region 30 with (go_at_call 42; go_loud (refine (numbers_any au cu wo.heap.size L0 w27 (G7.out.r 4 rfl) lL2 G7.out.hlo).mono ?_; rintro e w28 ⟨rfl, hg, hb⟩; have G8 := Lib.hid (G7.out.spoil 4 rfl hg); simp only [List.eraseIdx_cons_zero, List.eraseIdx_cons_succ] at G8; clear hg hb g7x0_0 g7x0_1 g7x0_2 g7x0_3 g7x0_4 g7x0_5 g7x0_6 g7x0_7 g7x0_8 g7x0_9 g7x5_0 g7x5_1 g7x5_2 g7x6_0 g7x6_1 g7x6_2 g7x8_0 g7x8_1 g7x8_2; have g8x0_0 := G8.out.c 0 0 rfl rfl; have g8x0_1 := G8.out.c 0 1 rfl rfl; have g8x0_2 := G8.out.c 0 2 rfl rfl; have g8x0_3 := G8.out.c 0 3 rfl rfl; have g8x0_4 := G8.out.c 0 4 rfl rfl; have g8x0_5 := G8.out.c 0 5 rfl rfl; have g8x0_6 := G8.out.c 0 6 rfl rfl; have g8x0_7 := G8.out.c 0 7 rfl rfl; have g8x0_8 := G8.out.c 0 8 rfl rfl; have g8x0_9 := G8.out.c 0 9 rfl rfl; have g8x5_0 := G8.out.c 5 0 rfl rfl; have g8x5_1 := G8.out.c 5 1 rfl rfl; have g8x5_2 := G8.out.c 5 2 rfl rfl; have g8x8_0 := G8.out.c 8 0 rfl rfl; have g8x8_1 := G8.out.c 8 1 rfl rfl; have g8x8_2 := G8.out.c 8 2 rfl rfl))
                      go_upto_region 31 with (go_at_call 42; go_loud (refine (numbers_any av cv2 wo.heap.size NO w28 (G8.out.r 5 rfl) lO2 G8.out.hlo).mono ?_; rintro e w29 ⟨rfl, hg, hb⟩; have G9 := Lib.hid (G8.out.spoil 5 rfl hg); simp only [List.eraseIdx_cons_zero, List.eraseIdx_cons_succ] at G9; clear hg hb g8x0_0 g8x0_1 g8x0_2 g8x0_3 g8x0_4 g8x0_5 g8x0_6 g8x0_7 g8x0_8 g8x0_9 g8x5_0 g8x5_1 g8x5_2 g8x8_0 g8x8_1 g8x8_2; have g9x0_0 := G9.out.c 0 0 rfl rfl; have g9x0_1 := G9.out.c 0 1 rfl rfl; have g9x0_2 := G9.out.c 0 2 rfl rfl; have g9x0_3 := G9.out.c 0 3 rfl rfl; have g9x0_4 := G9.out.c 0 4 rfl rfl; have g9x0_5 := G9.out.c 0 5 rfl rfl; have g9x0_6 := G9.out.c 0 6 rfl rfl; have g9x0_7 := G9.out.c 0 7 rfl rfl; have g9x0_8 := G9.out.c 0 8 rfl rfl; have g9x0_9 := G9.out.c 0 9 rfl rfl; have g9x5_0 := G9.out.c 5 0 rfl rfl; have g9x5_1 := G9.out.c 5 1 rfl rfl; have g9x5_2 := G9.out.c 5 2 rfl rfl))
                      go_wp2_with (go_at_call 52; refine (eqCursor_same ak aX ck cX xs at_ ep _ (G9.out.li 3 (k := .i64) (xs := xs) rfl HX.out.wf) (G9.out.lw 0 rfl)).mono ?_; rintro e w30 ⟨rfl, hb⟩; have G10 := Lib.hid (G9.out.next hb); clear hb g9x0_0 g9x0_1 g9x0_2 g9x0_3 g9x0_4 g9x0_5 g9x0_6 g9x0_7 g9x0_8 g9x0_9 g9x5_0 g9x5_1 g9x5_2)
                      go_roundw
                      case rel => exact ⟨k + 1, by omega, by go_num, HB.out.trans (G10.out.bel.mono HB.out.size)⟩
                      case measure => simp [intOf]; omega
    · have HB := Lib.hid hbel
      clear hbel h
      have WK := fun W => Lib.hid (wakes31_any W)
      by_cases hlt : k < n
      · have hk15 : ¬ (k : Int) < 8 := by omega
        have hkn : (k : Int) < n := by omega
        go_wp2_with (go_at_call 53; refine ((WK _).out).mono ?_; rintro e w1 ⟨rfl, hb⟩; have HW1 := Lib.hid hb; clear hb)
        go_ret
        exact ⟨rfl, HB.out.trans (HW1.out.mono HB.out.size)⟩
      · obtain rfl : k = n := by omega
        go_wp2_with (go_at_call 53; refine ((WK _).out).mono ?_; rintro e w1 ⟨rfl, hb⟩; have HW1 := Lib.hid hb; clear hb)
        go_ret
        exact ⟨rfl, HB.out.trans (HW1.out.mono HB.out.size)⟩
end Go.Proofs.Ytiejkdnkdmanmaa
