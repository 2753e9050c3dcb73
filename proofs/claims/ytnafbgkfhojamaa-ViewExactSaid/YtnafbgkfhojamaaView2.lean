/- Walks: all indexes of a shape, in order. -/
import Derived.Test.YtnafbgkfhojamaaView1
import Derived.Test.YtnafbgkfhojamaaVList2
import Derived.Test.YtnafbgkfhojamaaKept
import Derived.Deep.LoopGhost
import Derived.Sort.LoopGhostIn
set_option linter.unusedVariables false
set_option linter.unusedSimpArgs false
namespace Go.Proofs.Ytnafbgkfhojamaa
open Go.RowKit Go.Rt
attribute [local go_sem] Oper.semAt_some
theorem stands_mem : ∀ {sh : List Int} {n : Int}, Dims sh → ∀ x ∈ standsI sh n, 0 ≤ x ∧ x < 4096
  | [], _, _ => by simp [standsI]
  | d :: r, n, h => by
    intro x hx
    rw [standsI, List.mem_cons] at hx
    rcases hx with rfl | hx
    · have h1 := h.head
      have h2 := Int.emod_nonneg (n / prodI r) (show d ≠ 0 by omega)
      have h3 := Int.emod_lt_of_pos (n / prodI r) (show 0 < d by omega)
      omega
    · exact stands_mem h.tail x hx
theorem wf_stands {sh : List Int} {n : Int} (h : Dims sh) : ∀ x ∈ standsI sh n, (Lit.int .i64 x).wf = true := wf_dims (fun x hx => by have := stands_mem h x hx; omega)
set_option maxRecDepth 100000 in
/-- shape.All: a closure over a variable that holds a copy of the shape. -/
theorem all_any (a : Option Addr) (c : Nat) (sh : List Int) (w : World) (h : Ints .i64 w w.heap.size a sh) (h4 : sh.length ≤ 1000) :
    Calls Try.prog 69 #[.slice a sh.length c] w fun e w' => ∃ a' c', e = .returned (.func (.func 73) #[] #[.pointer (some ⟨w.heap.size, 0, none⟩)]) ∧
      Fr w.heap.size w w' [(w.heap.size, [.slice a' sh.length c'])] [] [⟨3, .slice a' sh.length c', sh.length, sh.map (Value.int .i64)⟩] [] := by
  have hcl := fun w (h : Ints .i64 w w.heap.size a sh) => Lib.hid (clone_any a c sh w h (by omega))
  have HH := Lib.hid h
  clear h
  go_enter Try.func69, Try.ntmps69
  have F1 := Lib.hid ((Fr.start (w := w) (I := []) (by simp)).box1 (b := w.heap.size) rfl [.slice a sh.length c] 23)
  simp only [List.nil_append] at F1
  go_upto_region 1 with fail
  have HI := Lib.hid ((HH.out.below (Below.alloc (Below.refl w.heap.size w) (Nat.le_refl _) (.cells #[.slice a sh.length c] 23)) (Nat.le_refl _)).mono (by simp : w.heap.size ≤ (w.alloc (.cells #[.slice a sh.length c] 23)).heap.size))
  obtain ⟨W1, hW1⟩ : ∃ W1, (w.alloc (.cells #[.slice a sh.length c] 23)) = W1 := ⟨_, rfl⟩
  rw [hW1] at F1 HI ⊢
  clear hW1
  have c0 := F1.out.c 0 0 rfl rfl
  go_wp2_with (go_at_call 51; refine (hcl _ HI.out).out.mono ?_; rintro e w2 ⟨v, rfl, hown, hb⟩; obtain ⟨a2, c2, rfl, _⟩ := own_shape hown; have F2 := Lib.hid (F1.out.addO hb hown); clear hown hb c0 F1; have c0 := F2.out.c 0 0 rfl rfl; have f0 := F2.out.f 0 0 rfl rfl)
  have F3 := Lib.hid (F2.out.set 0 rfl (by simp) [.slice a2 sh.length c2] rfl)
  simp only [setL, List.nil_append, List.set_cons_zero] at F3
  go_ret
  exact ⟨a2, c2, rfl, F3.out⟩
/-- view.Places: a closure over a variable that holds the view. -/
theorem places_any (a b : Option Addr) (n c m d : Nat) (off : Int) (w : World) :
    Calls Try.prog 53 #[.agg #[.slice a n c, .slice b m d, .int .i64 off]] w fun e w' => e = .returned (.func (.func 68) #[] #[.pointer (some ⟨w.heap.size, 0, none⟩)]) ∧ w' = w.alloc (.cells #[.slice a n c, .slice b m d, .int .i64 off] 25) := by
  go_enter Try.func53, Try.ntmps53
  go_wp2
  go_ret
  exact ⟨by simp, rfl⟩

set_option maxRecDepth 100000 in
set_option maxHeartbeats 1000000 in
/-- The iterator of all indexes, called at yield of loop l: rounds 0 to N - 1, or a round says 'no more'. -/
theorem allIter (n : Nat) (hn : 3 ≤ n) (l B N : Nat) (a : Option Addr) (c : Nat) (sh : List Int) (W : World) (J : Nat → World → Prop) (Jx : World → Prop) (hg : goodB sh = true) (hN : prodI sh = (N : Int))
    (hJ : ∀ k W1 W2, J k W1 → Below W1.heap.size W1 W2 → J k W2)
    (hJB : ∀ k W1, J k W1 → W1.cell? ⟨B, 0, none⟩ = some (.slice a sh.length c) ∧ Ints .i64 W1 W1.heap.size a sh)
    (hY : ∀ k a1 c1 W1, k < N → J k W1 → Ints .i64 W1 W1.heap.size a1 (standsI sh k) →
      YieldAt Fence.wide (n - 1) Try.prog l #[.int .i64 (k : Int), .slice a1 sh.length c1] W1 fun e W' => (e = .returned (.bool true) ∧ J (k + 1) W') ∨ (e = .returned (.bool false) ∧ Jx W'))
    (h0 : J 0 W) :
    CallsIn Fence.wide n Try.prog 73 #[.func (.yield l) #[] #[], .pointer (some ⟨B, 0, none⟩)] W fun e W' => (∃ v, e = .returned v) ∧ (J N W' ∨ Jx W') := by
  have hP := goodB_prod hg
  have HGD := Lib.hid hg
  have hN2 : N ≤ 65536 := by omega
  have HNN := Lib.hid hN
  have h1n : 1 ≤ n := by omega
  have HJ := Lib.hid hJ
  have HJB := Lib.hid hJB
  have HY := Lib.hid hY
  have H0 := Lib.hid h0
  obtain ⟨c0, hI0⟩ := hJB 0 W h0
  have HC1 := Lib.hid (callsIn_wide.2 (good_any a c _ sh W hI0) : CallsIn Fence.wide (n - 1) _ _ _ _ _)
  have hsz := size_any a c _ sh W hI0 hg
  rw [hg] at HC1
  rw [hN] at hsz
  have HC2 := Lib.hid (callsIn_wide.2 hsz : CallsIn Fence.wide (n - 1) _ _ _ _ _)
  clear hsz hP hN hg hJ hJB hY h0 hI0
  refine callsIn_of_wp Try.func73 rfl trivial ?_ rfl
  simp only [Try.ntmps73, List.size_toArray, List.length_cons, List.length_nil, Nat.reduceAdd, Nat.reduceSub, Array.replicate_succ, Array.replicate_zero, List.push_toArray, List.append_toArray, List.nil_append, List.cons_append]
  have hfn1 : Fence.wide.fn 54 := trivial
  have hfn2 : Fence.wide.fn 52 := trivial
  have hfn3 : Fence.wide.fn 74 := trivial
  gi_wp2_with (first | (gi_at_call 54; refine HC1.out.mono ?_; rintro e w1 ⟨rfl, rfl⟩) | (gi_at_call 52; refine HC2.out.mono ?_; rintro e w1 ⟨rfl, rfl⟩))
  clear c0 HC1 HC2
  gi_loopw [9] (fun i wr => ∃ k : Nat, k ≤ N ∧ i = .int .i64 k ∧ Hid (J k wr)) (fun i _ => N - (intOf i).toNat)
  case atStart => exact ⟨0, Nat.zero_le _, rfl, H0⟩
  case round =>
    obtain ⟨k, hk, rfl, HK⟩ := hrel
    clear H0
    by_cases hlt : k < N
    · obtain ⟨c0, hI0⟩ := HJB.out k wr HK.out
      have HST := Lib.hid (callsIn_wide.2 (stands_any a c sh (k : Int) wr hI0 HGD.out (by omega) (by omega)) : CallsIn Fence.wide (n - 1) _ _ _ _ _)
      have hsl := standsI_length sh (k : Int)
      have hwf : ∀ x ∈ standsI sh (k : Int), (Lit.int .i64 x).wf = true := wf_stands (goodB_dims HGD.out)
      have HSL := Lib.hid hsl
      have HWF := Lib.hid hwf
      clear hI0 hsl hwf
      gi_wp2_with (gi_at_call 74; refine HST.out.mono ?_; rintro e w1 ⟨v, rfl, hown, hb⟩; obtain ⟨a1, c1, rfl, _⟩ := own_shape hown; obtain ⟨a2, c2, he, hI⟩ := own_ints hown HWF.out; simp only [Value.slice.injEq] at he; obtain ⟨rfl, _, rfl⟩ := he; have HJ1 := Lib.hid (HJ.out k _ _ HK.out hb); rw [HSL.out]; obtain ⟨fn, tmps, assign, body, hy, hR⟩ := HY.out k a1 c1 w1 hlt HJ1.out hI; have HR := Lib.hid hR; clear hR hI hown hb c0)
      refine HR.out.mono ?_
      rintro e W3 (⟨rfl, hJ3⟩ | ⟨rfl, hJx⟩)
      · have HJ3 := Lib.hid hJ3
        clear hJ3 hy
        gi_wp2
        go_roundw
        case rel => exact ⟨k + 1, by omega, by go_num, HJ3⟩
        case measure => simp [intOf]; omega
      · have HJX := Lib.hid hJx
        clear hJx hy
        gi_wp2
        (try simp only [Exit.noGoto, Exit.inBlock, Exit.then])
        refine bodyPost_ret (results_none rfl _ _ _) rfl ?_
        exact ⟨⟨_, rfl⟩, .inr HJX.out⟩
    · obtain rfl : k = N := by omega
      gi_wp2
      (try simp only [Exit.noGoto, Exit.inBlock, Exit.then])
      go_end0
      exact ⟨⟨_, rfl⟩, .inl HK.out⟩
end Go.Proofs.Ytnafbgkfhojamaa
