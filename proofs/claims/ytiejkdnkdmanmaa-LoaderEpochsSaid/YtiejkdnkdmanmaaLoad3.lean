/- Walks: the next batch. -/
import Derived.Test.YtiejkdnkdmanmaaLoad2
set_option linter.unusedVariables false
set_option linter.unusedSimpArgs false
namespace Go.Proofs.Ytiejkdnkdmanmaa
open Go.RowKit Go.Rt
attribute [local go_sem] Oper.semAt_some
theorem results_ccct {fn : Func} {u p q z : Tmp} {tu tp tq : TypeId} (h : fn.results = #[.cell u tu, .cell p tp, .cell q tq, .tmp z]) (tmps : Array Value) (P : Program) (w : World) :
    (results fn tmps).run P w = ((asAddr (tmps.getD u undef)).run P w).andThen fun a w₁ => ((loadVar tu a).run P w₁).andThen fun v w₂ => ((asAddr (tmps.getD p undef)).run P w₂).andThen fun a2 w₃ => ((loadVar tp a2).run P w₃).andThen fun v2 w₄ => ((asAddr (tmps.getD q undef)).run P w₄).andThen fun a3 w₅ => ((loadVar tq a3).run P w₅).andThen fun v3 w₆ => .ok (.tuple #[v, v2, v3, tmps.getD z undef]) w₆ := by
  simp only [results, h]
  simp [Sem.run_bind, Result.andThen]

theorem RetShuf.fr {w w' : World} {l xs : List Int} {s : St} {z : Int} {e : Ending} (h : RetShuf w l xs s z e w') : ∃ a c a2 c2, e = .returned (.tuple #[.slice a l.length c, .agg #[.slice a2 xs.length c2, .int .u64 (s.a : Nat), .int .u64 (s.b : Nat), .int .u64 (s.c : Nat), .int .u64 (s.d : Nat)], .int .i64 z]) ∧
    Fr w.heap.size w w' [] [] [⟨3, .slice a l.length c, l.length, l.map (Value.int .i64)⟩, ⟨24, .slice a2 xs.length c2, xs.length, xs.map (Value.int .u64)⟩] [] := by
  obtain ⟨a, c, a2, c2, b2, h1, h2, h3, h4, h5, h6⟩ := h
  refine ⟨a, c, a2, c2, h1, h6.size, h6, by simp, .nil, by simp, fun q hq => ?_, by simp, ?_, by simp, .nil⟩
  · simp only [List.mem_cons, List.not_mem_nil, or_false] at hq
    rcases hq with rfl | rfl
    · exact h2
    · exact own_mono h3 h4
  · refine List.pairwise_cons.2 ⟨fun q hq g hg e => ?_, List.pairwise_singleton _ _⟩
    simp only [List.mem_cons, List.not_mem_nil, or_false] at hq
    subst hq
    have h7 := h5 g hg
    have h8 := (h3.lt g e).1
    omega
/-- What the next batch is, where one may be told: the order, the place, the epoch, the generator. -/
noncomputable def nxO (xs rs : List Int) (s : St) (A N : Nat) : List Int := if A = N + 1 then lst N rs s N else xs
def nxA (A N : Nat) : Nat := if A = N + 1 then 0 else A
def nxE (A E N : Nat) : Nat := if A = N + 1 then E + 1 else E
noncomputable def nxR (rs : List Int) (s : St) (A N : Nat) : List Int := if A = N + 1 then (tur N rs s N).1 else rs
noncomputable def nxS (rs : List Int) (s : St) (A N : Nat) : St := if A = N + 1 then (tur N rs s N).2 else s
def nxEnd (A N size : Nat) : Nat := min (nxA A N + size) (N + 1)
noncomputable def nxI (xs rs : List Int) (s : St) (A N size : Nat) : List Int := ((nxO xs rs s A N).drop (nxA A N)).take (nxEnd A N size - nxA A N)
theorem nx_once {xs rs : List Int} {s : St} {A N : Nat} (h : Once (N + 1) xs) : Once (N + 1) (nxO xs rs s A N) := by
  unfold nxO
  split
  · exact lst_once N rs s N (Nat.le_refl _)
  · exact h
theorem nxA_lt {A N : Nat} (h : A ≤ N + 1) : nxA A N < N + 1 := by unfold nxA; split <;> omega
theorem nxE_le (A E N : Nat) : nxE A E N ≤ E + 1 := by unfold nxE; split <;> omega
theorem once_wf {n : Nat} {l : List Int} (h : Once n l) (hn : n ≤ 65536) : ∀ x ∈ l, (Lit.int .i64 x).wf = true := fun x hx => by
  have := h.bnd x hx
  exact wf_i64_iff.2 ⟨by omega, by omega⟩
/-- What loader.Next hands back. -/
def RetNext (w : World) (ids xs : List Int) (at_ ep : Int) (rs : List Int) (s : St) (z : Int) (e : Ending) (w' : World) : Prop :=
  ∃ ai ci ao co ar cr, e = .returned (.tuple #[.slice ai ids.length ci, .agg #[.slice ao xs.length co, .int .i64 at_, .int .i64 ep], .agg #[.slice ar rs.length cr, .int .u64 (s.a : Nat), .int .u64 (s.b : Nat), .int .u64 (s.c : Nat), .int .u64 (s.d : Nat)], .int .i64 z]) ∧
    Fr w.heap.size w w' [] [] [⟨3, .slice ao xs.length co, xs.length, xs.map (Value.int .i64)⟩, ⟨24, .slice ar rs.length cr, rs.length, rs.map (Value.int .u64)⟩, ⟨3, .slice ai ids.length ci, ids.length, ids.map (Value.int .i64)⟩] []

set_option maxRecDepth 100000 in
set_option maxHeartbeats 4000000 in
theorem lnext_good (a a2 : Option Addr) (c c2 : Nat) (xs rs : List Int) (s : St) (A E N size : Nat) (w : World) (hm : mayC xs (A : Int) (E : Int) ((N + 1 : Nat) : Int) = true) (hs : GoodS rs s) (hl : rs.length ≤ 4096) (hx : Ints .i64 w w.heap.size a xs) (hr : Ints .u64 w w.heap.size a2 rs) (hc : rs.length ≤ c2 ∧ c2 ≤ 9223372036854775807) (h1 : 1 ≤ size) (h2 : size ≤ 4096) (hbd : ¬ (A = N + 1 ∧ E = 1048576)) :
    Calls Try.prog 50 #[.agg #[.slice a xs.length c, .int .i64 (A : Int), .int .i64 (E : Int)], .agg #[.slice a2 rs.length c2, .int .u64 (s.a : Nat), .int .u64 (s.b : Nat), .int .u64 (s.c : Nat), .int .u64 (s.d : Nat)], .int .i64 ((N + 1 : Nat) : Int), .int .i64 (size : Int)] w (RetNext w (nxI xs rs s A N size) (nxO xs rs s A N) (nxEnd A N size : Nat) (nxE A E N : Nat) (nxR rs s A N) (nxS rs s A N) 0) := by
  have hmc := mayC_iff.1 hm
  obtain ⟨_, hn2, hax, _, hA2, _, hE2⟩ := hmc
  have hon := axesB_once.1 hax
  have hgd := fun (W : World) (h : Ints .i64 W w.heap.size a xs) (hh : w.heap.size ≤ W.heap.size) => Lib.hid (good31_any a c w.heap.size xs (A : Int) (E : Int) ((N + 1 : Nat) : Int) W h hh)
  rw [hm] at hgd
  have hrg := fun W => Lib.hid (rgood_any a2 rs.length c2 s W hs.1 (by omega))
  have hgR : goodR rs.length s = true := by unfold goodR; rw [hs.2.1]; simp [hl]
  rw [hgR] at hrg
  have hxl := hon.len
  obtain ⟨m, hmN⟩ : ∃ m, N + 1 = m := ⟨_, rfl⟩
  rw [hmN] at hn2 hA2 hgd hbd hon hxl ⊢
  have hm1 : 1 ≤ m := by omega
  have hm2 : m ≤ 1024 := by omega
  have hA : A ≤ m := by omega
  have hE : E ≤ 1048576 := by omega
  have HXL := Lib.hid hxl
  have HON := Lib.hid hon
  have HMN := Lib.hid hmN
  have HS := Lib.hid hs
  have HR := Lib.hid hr
  have HX := Lib.hid hx
  have HCC := Lib.hid hc
  have HCL := Lib.hid (fun W (h : Ints .i64 W W.heap.size a xs) => clone_any a c xs W h (by omega))
  have HCR := Lib.hid (fun W (h : Ints .u64 W W.heap.size a2 rs) => clone64_any a2 c2 rs W h (by omega))
  have HBD := Lib.hid hbd
  clear hmN hs hr hx hgR hm hax hon hxl hn2 hA2 hE2 hbd hc
  refine (callsIn_wide (n := 9)).1 ?_
  refine callsIn_of_wp_marks Try.func50 rfl trivial ?_ rfl
  simp only [Try.ntmps50, List.size_toArray, List.length_cons, List.length_nil, Nat.reduceAdd, Nat.reduceSub, Array.replicate_succ, Array.replicate_zero, List.push_toArray, List.append_toArray, List.nil_append, List.cons_append]
  refine wpIn_wide.2 ?_
  have F1 := Lib.hid ((((((Fr.start (w := w) (I := [(.i64, a, xs), (.u64, a2, rs)]) (by intro p hp; simp at hp; rcases hp with rfl | rfl; exact HX.out; exact HR.out)).box1 (b := w.heap.size) (by simp) [.slice a xs.length c, .int .i64 (A : Int), .int .i64 (E : Int)] 73).box1 (b := w.heap.size + 1) (by simp) [.slice a2 rs.length c2, .int .u64 (s.a : Nat), .int .u64 (s.b : Nat), .int .u64 (s.c : Nat), .int .u64 (s.d : Nat)] 27).box1 (b := w.heap.size + 1 + 1) (by simp) [.slice none 0 0] 46).box1 (b := w.heap.size + 1 + 1 + 1) (by simp) [.slice none 0 0, .int .i64 0, .int .i64 0] 73).box1 (b := w.heap.size + 1 + 1 + 1 + 1) (by simp) [.slice none 0 0, .int .u64 0, .int .u64 0, .int .u64 0, .int .u64 0] 27)
  simp only [List.nil_append, List.cons_append] at F1
  go_upto_region 1 with fail
  obtain ⟨W0, hW0⟩ : ∃ W0, (((((w.alloc (.cells #[.slice a xs.length c, .int .i64 (A : Int), .int .i64 (E : Int)] 73)).alloc (.cells #[.slice a2 rs.length c2, .int .u64 (s.a : Nat), .int .u64 (s.b : Nat), .int .u64 (s.c : Nat), .int .u64 (s.d : Nat)] 27)).alloc (.cells #[.slice none 0 0] 46)).alloc (.cells #[.slice none 0 0, .int .i64 0, .int .i64 0] 73)).alloc (.cells #[.slice none 0 0, .int .u64 0, .int .u64 0, .int .u64 0, .int .u64 0] 27)) = W0 := ⟨_, rfl⟩
  rw [hW0] at F1 ⊢
  clear hW0
  have c0_0 := F1.out.c 0 0 rfl rfl
  have c0_1 := F1.out.c 0 1 rfl rfl
  have c0_2 := F1.out.c 0 2 rfl rfl
  have c1_0 := F1.out.c 1 0 rfl rfl
  have c1_1 := F1.out.c 1 1 rfl rfl
  have c1_2 := F1.out.c 1 2 rfl rfl
  have c1_3 := F1.out.c 1 3 rfl rfl
  have c1_4 := F1.out.c 1 4 rfl rfl
  go_upto_region 3 with (first | (go_at_call 77; refine (hgd _ (F1.out.l 0 rfl) F1.out.hlo).out.mono ?_; rintro e w1 ⟨rfl, hb⟩; have F2 := Lib.hid (F1.out.next hb); clear hb; have d0_0 := F2.out.c 0 0 rfl rfl; have d0_1 := F2.out.c 0 1 rfl rfl; have d0_2 := F2.out.c 0 2 rfl rfl; have d1_0 := F2.out.c 1 0 rfl rfl; have d1_1 := F2.out.c 1 1 rfl rfl; have d1_2 := F2.out.c 1 2 rfl rfl; have d1_3 := F2.out.c 1 3 rfl rfl; have d1_4 := F2.out.c 1 4 rfl rfl) | (go_at_call 59; refine (hrg _).out.mono ?_; rintro e w2 ⟨rfl, hb⟩; have F3 := Lib.hid (F2.out.next hb); clear hb c0_0 c0_1 c0_2 c1_0 c1_1 c1_2 c1_3 c1_4 d0_0 d0_1 d0_2 d1_0 d1_1 d1_2 d1_3 d1_4))
  clear F1 F2 hgd hrg
  refine wp_region_parts2 (w := w2) 8 1 none [] [(fun u _ => u = .pointer (some ⟨w.heap.size, 0, none⟩)), (fun u _ => u = .slice a xs.length c), ((IsRow w2.heap.size 3 xs.length (xs.map (Value.int .i64)))), (fun u _ => u = .pointer (some ⟨w.heap.size, 1, none⟩)), (fun u _ => u = .int .i64 (A : Int)), (fun u _ => u = .pointer (some ⟨w.heap.size, 2, none⟩)), (fun u _ => u = .int .i64 (E : Int)), ((fun u W => ∃ ao co, u = .agg #[.slice ao xs.length co, .int .i64 (A : Int), .int .i64 (E : Int)] ∧ W.ownsRow w2.heap.size 3 1 (.slice ao xs.length co) xs.length (xs.map (Value.int .i64))))] [some 33, some 34, some 35, some 36, some 37, some 38, some 39, some 40, none] #[true, true, true, true, true, true, true, true, false] #[true, true, true, true, true, true, true, true, false] (by kernel_rfl) rfl (by kernel_rfl) (by kernel_rfl) rfl (by kernel_rfl) (by kernel_rfl) (.cons (carries_eq _) (.cons (carries_eq _) (.cons (isRow_carries _ _ _ _) (.cons (carries_eq _) (.cons (carries_eq _) (.cons (carries_eq _) (.cons (carries_eq _) (.cons ((fun u W W2 h hb => by obtain ⟨ao, co, h1, h2⟩ := h; exact ⟨ao, co, h1, own_below h2 hb (Nat.le_refl _)⟩)) .nil)))))))) (fun vs b hvl hvb => ?_)
  obtain ⟨x0, x1, x2, x3, x4, x5, x6, x7, x8, rfl⟩ : ∃ x0 x1 x2 x3 x4 x5 x6 x7 x8, vs = [x0, x1, x2, x3, x4, x5, x6, x7, x8] := lst9 hvl
  clear hvl
  simp only [putAll, Act.put, List.setIfInBounds_toArray, List.set_cons_zero, List.set_cons_succ] at hvb
  subst hvb
  refine ⟨(.snoc (.snoc (.snoc (.snoc (.snoc (.snoc (.snoc (.snoc .zero (PartOb.intro (d := (some 33)) (r := fun u _ => u = .pointer (some ⟨w.heap.size, 0, none⟩)) rfl rfl rfl rfl ?po3x0)) (PartOb.intro (d := (some 34)) (r := fun u _ => u = .slice a xs.length c) rfl rfl rfl rfl ?po3x1)) (PartOb.intro (d := (some 35)) (r := (IsRow w2.heap.size 3 xs.length (xs.map (Value.int .i64)))) rfl rfl rfl rfl ?po3x2)) (PartOb.intro (d := (some 36)) (r := fun u _ => u = .pointer (some ⟨w.heap.size, 1, none⟩)) rfl rfl rfl rfl ?po3x3)) (PartOb.intro (d := (some 37)) (r := fun u _ => u = .int .i64 (A : Int)) rfl rfl rfl rfl ?po3x4)) (PartOb.intro (d := (some 38)) (r := fun u _ => u = .pointer (some ⟨w.heap.size, 2, none⟩)) rfl rfl rfl rfl ?po3x5)) (PartOb.intro (d := (some 39)) (r := fun u _ => u = .int .i64 (E : Int)) rfl rfl rfl rfl ?po3x6)) (PartOb.intro (d := (some 40)) (r := (fun u W => ∃ ao co, u = .agg #[.slice ao xs.length co, .int .i64 (A : Int), .int .i64 (E : Int)] ∧ W.ownsRow w2.heap.size 3 1 (.slice ao xs.length co) xs.length (xs.map (Value.int .i64)))) rfl rfl rfl rfl ?po3x7)), ?pend3, ?pfl3⟩
  case po3x0 =>
    intro w1 hb1 hd KK hK
    clear hd
    simp only [Act.put, List.setIfInBounds_toArray, List.set_cons_zero, List.set_cons_succ] at hK
    go_simp
    first | exact hK.out _ _ (Below.refl _ _) rfl | (have hk := hK.out _ _ (Below.refl _ _) rfl; revert hk; go_simp)
  case po3x1 =>
    intro w1 hb1 hd KK hK
    have d0 : x0 = .pointer (some ⟨w.heap.size, 0, none⟩) := hd 0 (by kernel_rfl)
    clear hd
    subst d0
    have G := F3.out.next hb1
    have k := G.c 0 0 rfl rfl
    simp only [Act.put, List.setIfInBounds_toArray, List.set_cons_zero, List.set_cons_succ] at hK
    go_simp
    first | exact hK.out _ _ (Below.refl _ _) rfl | (have hk := hK.out _ _ (Below.refl _ _) rfl; revert hk; go_simp)
  case po3x2 =>
    intro w1 hb1 hd KK hK
    have d1 : x1 = .slice a xs.length c := hd 1 (by kernel_rfl)
    clear hd
    subst d1
    simp only [Act.put, List.setIfInBounds_toArray, List.set_cons_zero, List.set_cons_succ] at hK
    go_simp
    go_at_call 78
    refine (HCL.out _ ((F3.out.next hb1).lw 0 rfl)).mono ?_
    rintro e w3 ⟨v, rfl, hown, hb2⟩
    obtain ⟨ao, co, rfl, _⟩ := own_shape hown
    (try go_wp2_with fail)
    first | exact hK.out _ _ hb2 ⟨ao, co, rfl, own_mono hown hb1.size⟩ | (have hk := hK.out _ _ hb2 ⟨ao, co, rfl, own_mono hown hb1.size⟩; revert hk; go_simp)
  case po3x3 =>
    intro w1 hb1 hd KK hK
    clear hd
    simp only [Act.put, List.setIfInBounds_toArray, List.set_cons_zero, List.set_cons_succ] at hK
    go_simp
    first | exact hK.out _ _ (Below.refl _ _) rfl | (have hk := hK.out _ _ (Below.refl _ _) rfl; revert hk; go_simp)
  case po3x4 =>
    intro w1 hb1 hd KK hK
    have d3 : x3 = .pointer (some ⟨w.heap.size, 1, none⟩) := hd 3 (by kernel_rfl)
    clear hd
    subst d3
    have G := F3.out.next hb1
    have k := G.c 0 1 rfl rfl
    simp only [Act.put, List.setIfInBounds_toArray, List.set_cons_zero, List.set_cons_succ] at hK
    go_simp
    first | exact hK.out _ _ (Below.refl _ _) rfl | (have hk := hK.out _ _ (Below.refl _ _) rfl; revert hk; go_simp)
  case po3x5 =>
    intro w1 hb1 hd KK hK
    clear hd
    simp only [Act.put, List.setIfInBounds_toArray, List.set_cons_zero, List.set_cons_succ] at hK
    go_simp
    first | exact hK.out _ _ (Below.refl _ _) rfl | (have hk := hK.out _ _ (Below.refl _ _) rfl; revert hk; go_simp)
  case po3x6 =>
    intro w1 hb1 hd KK hK
    have d5 : x5 = .pointer (some ⟨w.heap.size, 2, none⟩) := hd 5 (by kernel_rfl)
    clear hd
    subst d5
    have G := F3.out.next hb1
    have k := G.c 0 2 rfl rfl
    simp only [Act.put, List.setIfInBounds_toArray, List.set_cons_zero, List.set_cons_succ] at hK
    go_simp
    first | exact hK.out _ _ (Below.refl _ _) rfl | (have hk := hK.out _ _ (Below.refl _ _) rfl; revert hk; go_simp)
  case po3x7 =>
    intro w1 hb1 hd KK hK
    have d2 : (IsRow w2.heap.size 3 xs.length (xs.map (Value.int .i64))) x2 w1 := hd 2 (by kernel_rfl)
    have d4 : x4 = .int .i64 (A : Int) := hd 4 (by kernel_rfl)
    have d6 : x6 = .int .i64 (E : Int) := hd 6 (by kernel_rfl)
    clear hd
    obtain ⟨ao, co, rfl, hown⟩ := d2
    subst d4
    subst d6
    simp only [Act.put, List.setIfInBounds_toArray, List.set_cons_zero, List.set_cons_succ] at hK
    go_simp
    first | exact hK.out _ _ (Below.refl _ _) ⟨ao, co, rfl, hown⟩ | (have hk := hK.out _ _ (Below.refl _ _) ⟨ao, co, rfl, hown⟩; revert hk; go_simp)
  case pfl3 => (intro f hf; cases hf)
  case pend3 =>
  intro w1 hb1 hR hD
  have d0 : x0 = .pointer (some ⟨w.heap.size, 0, none⟩) := hR 0 (by decide)
  have d1 : x1 = .slice a xs.length c := hR 1 (by decide)
  have d2 : (IsRow w2.heap.size 3 xs.length (xs.map (Value.int .i64))) x2 w1 := hR 2 (by decide)
  have d3 : x3 = .pointer (some ⟨w.heap.size, 1, none⟩) := hR 3 (by decide)
  have d4 : x4 = .int .i64 (A : Int) := hR 4 (by decide)
  have d5 : x5 = .pointer (some ⟨w.heap.size, 2, none⟩) := hR 5 (by decide)
  have d6 : x6 = .int .i64 (E : Int) := hR 6 (by decide)
  have d7 : (fun u W => ∃ ao co, u = .agg #[.slice ao xs.length co, .int .i64 (A : Int), .int .i64 (E : Int)] ∧ W.ownsRow w2.heap.size 3 1 (.slice ao xs.length co) xs.length (xs.map (Value.int .i64))) x7 w1 := hR 7 (by decide)
  clear hR hD
  subst d0
  subst d1
  obtain ⟨ao, co, rfl, hown⟩ := d2
  subst d3
  subst d4
  subst d5
  subst d6
  obtain ⟨ao, co, rfl, hown⟩ := d7
  refine wpAny_ready (rs := [8]) (by kernel_rfl) (by simp) (AllReady.cons rfl (fun KK hK => ?_) AllReady.nil)
  have G := F3.out.next hb1
  have kf0 := G.f 3 0 rfl rfl
  have kf1 := G.f 3 1 rfl rfl
  have kf2 := G.f 3 2 rfl rfl
  have k0 := G.c 3 0 rfl rfl
  have k1 := G.c 3 1 rfl rfl
  have k2 := G.c 3 2 rfl rfl
  go_simp
  refine hK _ _ ?_
  clear hK KK
  try simp only [putAll, Act.put, List.setIfInBounds_toArray, List.set_cons_zero, List.set_cons_succ]
  refine wpAny_done (by kernel_rfl) ?_ _
  have F4 := Lib.hid ((F3.out.addO hb1 hown).set 3 rfl (by simp) [.slice ao xs.length co, .int .i64 (A : Int), .int .i64 (E : Int)] rfl)
  simp only [List.nil_append, List.set_cons_zero, List.set_cons_succ] at F4
  obtain ⟨W4, hW4⟩ : ∃ W4, setL w1 (w.heap.size + 1 + 1 + 1) 0 [.slice ao xs.length co, .int .i64 (A : Int), .int .i64 (E : Int)] = W4 := ⟨_, rfl⟩
  rw [hW4] at F4
  simp only [setL, Nat.reduceAdd] at hW4
  rw [hW4]
  clear hW4 F3 G hb1 hown k0 kf0 k1 kf1 k2 kf2 x8
  go_upto_region 4 with fail
  refine wp_region_parts2 (w := W4) 6 1 none [] [(fun u _ => u = .pointer (some ⟨w.heap.size + 1, 0, none⟩)), (fun u _ => u = .slice a2 rs.length c2), ((IsRow W4.heap.size 24 rs.length (rs.map (Value.int .u64)))), (fun u _ => u = .pointer (some ⟨w.heap.size + 1, 1, none⟩)), (fun u _ => u = .agg #[.int .u64 (s.a : Nat), .int .u64 (s.b : Nat), .int .u64 (s.c : Nat), .int .u64 (s.d : Nat)]), ((fun u W => ∃ ar cr, u = .agg #[.slice ar rs.length cr, .int .u64 (s.a : Nat), .int .u64 (s.b : Nat), .int .u64 (s.c : Nat), .int .u64 (s.d : Nat)] ∧ W.ownsRow W4.heap.size 24 1 (.slice ar rs.length cr) rs.length (rs.map (Value.int .u64))))] [some 41, some 42, some 43, some 44, some 45, some 46, none] #[true, true, true, true, true, true, false] #[true, true, true, true, true, true, false] (by kernel_rfl) rfl (by kernel_rfl) (by kernel_rfl) rfl (by kernel_rfl) (by kernel_rfl) (.cons (carries_eq _) (.cons (carries_eq _) (.cons (isRow_carries _ _ _ _) (.cons (carries_eq _) (.cons (carries_eq _) (.cons ((fun u W W2 h hb => by obtain ⟨ar, cr, h1, h2⟩ := h; exact ⟨ar, cr, h1, own_below h2 hb (Nat.le_refl _)⟩)) .nil)))))) (fun vs b hvl hvb => ?_)
  obtain ⟨x0, x1, x2, x3, x4, x5, x6, rfl⟩ : ∃ x0 x1 x2 x3 x4 x5 x6, vs = [x0, x1, x2, x3, x4, x5, x6] := lst7 hvl
  clear hvl
  simp only [putAll, Act.put, List.setIfInBounds_toArray, List.set_cons_zero, List.set_cons_succ] at hvb
  subst hvb
  refine ⟨(.snoc (.snoc (.snoc (.snoc (.snoc (.snoc .zero (PartOb.intro (d := (some 41)) (r := fun u _ => u = .pointer (some ⟨w.heap.size + 1, 0, none⟩)) rfl rfl rfl rfl ?po4x0)) (PartOb.intro (d := (some 42)) (r := fun u _ => u = .slice a2 rs.length c2) rfl rfl rfl rfl ?po4x1)) (PartOb.intro (d := (some 43)) (r := (IsRow W4.heap.size 24 rs.length (rs.map (Value.int .u64)))) rfl rfl rfl rfl ?po4x2)) (PartOb.intro (d := (some 44)) (r := fun u _ => u = .pointer (some ⟨w.heap.size + 1, 1, none⟩)) rfl rfl rfl rfl ?po4x3)) (PartOb.intro (d := (some 45)) (r := fun u _ => u = .agg #[.int .u64 (s.a : Nat), .int .u64 (s.b : Nat), .int .u64 (s.c : Nat), .int .u64 (s.d : Nat)]) rfl rfl rfl rfl ?po4x4)) (PartOb.intro (d := (some 46)) (r := (fun u W => ∃ ar cr, u = .agg #[.slice ar rs.length cr, .int .u64 (s.a : Nat), .int .u64 (s.b : Nat), .int .u64 (s.c : Nat), .int .u64 (s.d : Nat)] ∧ W.ownsRow W4.heap.size 24 1 (.slice ar rs.length cr) rs.length (rs.map (Value.int .u64)))) rfl rfl rfl rfl ?po4x5)), ?pend4, ?pfl4⟩
  case po4x0 =>
    intro w1 hb1 hd KK hK
    clear hd
    simp only [Act.put, List.setIfInBounds_toArray, List.set_cons_zero, List.set_cons_succ] at hK
    go_simp
    first | exact hK.out _ _ (Below.refl _ _) rfl | (have hk := hK.out _ _ (Below.refl _ _) rfl; revert hk; go_simp)
  case po4x1 =>
    intro w1 hb1 hd KK hK
    have d0 : x0 = .pointer (some ⟨w.heap.size + 1, 0, none⟩) := hd 0 (by kernel_rfl)
    clear hd
    subst d0
    have G := F4.out.next hb1
    have k := G.c 1 0 rfl rfl
    simp only [Act.put, List.setIfInBounds_toArray, List.set_cons_zero, List.set_cons_succ] at hK
    go_simp
    first | exact hK.out _ _ (Below.refl _ _) rfl | (have hk := hK.out _ _ (Below.refl _ _) rfl; revert hk; go_simp)
  case po4x2 =>
    intro w1 hb1 hd KK hK
    have d1 : x1 = .slice a2 rs.length c2 := hd 1 (by kernel_rfl)
    clear hd
    subst d1
    simp only [Act.put, List.setIfInBounds_toArray, List.set_cons_zero, List.set_cons_succ] at hK
    go_simp
    go_at_call 79
    refine (HCR.out _ ((F4.out.next hb1).lw 1 rfl)).mono ?_
    rintro e w3 ⟨v, rfl, hown, hb2⟩
    obtain ⟨ar, cr, rfl, _⟩ := own_shape hown
    (try go_wp2_with fail)
    first | exact hK.out _ _ hb2 ⟨ar, cr, rfl, own_mono hown hb1.size⟩ | (have hk := hK.out _ _ hb2 ⟨ar, cr, rfl, own_mono hown hb1.size⟩; revert hk; go_simp)
  case po4x3 =>
    intro w1 hb1 hd KK hK
    clear hd
    simp only [Act.put, List.setIfInBounds_toArray, List.set_cons_zero, List.set_cons_succ] at hK
    go_simp
    first | exact hK.out _ _ (Below.refl _ _) rfl | (have hk := hK.out _ _ (Below.refl _ _) rfl; revert hk; go_simp)
  case po4x4 =>
    intro w1 hb1 hd KK hK
    have d3 : x3 = .pointer (some ⟨w.heap.size + 1, 1, none⟩) := hd 3 (by kernel_rfl)
    clear hd
    subst d3
    have G := F4.out.next hb1
    have k1 := G.c 1 1 rfl rfl
    have k2 := G.c 1 2 rfl rfl
    have k3 := G.c 1 3 rfl rfl
    have k4 := G.c 1 4 rfl rfl
    simp only [Act.put, List.setIfInBounds_toArray, List.set_cons_zero, List.set_cons_succ] at hK
    go_simp
    first | exact hK.out _ _ (Below.refl _ _) rfl | (have hk := hK.out _ _ (Below.refl _ _) rfl; revert hk; go_simp)
  case po4x5 =>
    intro w1 hb1 hd KK hK
    have d2 : (IsRow W4.heap.size 24 rs.length (rs.map (Value.int .u64))) x2 w1 := hd 2 (by kernel_rfl)
    have d4 : x4 = .agg #[.int .u64 (s.a : Nat), .int .u64 (s.b : Nat), .int .u64 (s.c : Nat), .int .u64 (s.d : Nat)] := hd 4 (by kernel_rfl)
    clear hd
    obtain ⟨ar, cr, rfl, hown⟩ := d2
    subst d4
    simp only [Act.put, List.setIfInBounds_toArray, List.set_cons_zero, List.set_cons_succ] at hK
    go_simp
    first | exact hK.out _ _ (Below.refl _ _) ⟨ar, cr, rfl, hown⟩ | (have hk := hK.out _ _ (Below.refl _ _) ⟨ar, cr, rfl, hown⟩; revert hk; go_simp)
  case pfl4 => (intro f hf; cases hf)
  case pend4 =>
  intro w1 hb1 hR hD
  have d0 : x0 = .pointer (some ⟨w.heap.size + 1, 0, none⟩) := hR 0 (by decide)
  have d1 : x1 = .slice a2 rs.length c2 := hR 1 (by decide)
  have d2 : (IsRow W4.heap.size 24 rs.length (rs.map (Value.int .u64))) x2 w1 := hR 2 (by decide)
  have d3 : x3 = .pointer (some ⟨w.heap.size + 1, 1, none⟩) := hR 3 (by decide)
  have d4 : x4 = .agg #[.int .u64 (s.a : Nat), .int .u64 (s.b : Nat), .int .u64 (s.c : Nat), .int .u64 (s.d : Nat)] := hR 4 (by decide)
  have d5 : (fun u W => ∃ ar cr, u = .agg #[.slice ar rs.length cr, .int .u64 (s.a : Nat), .int .u64 (s.b : Nat), .int .u64 (s.c : Nat), .int .u64 (s.d : Nat)] ∧ W.ownsRow W4.heap.size 24 1 (.slice ar rs.length cr) rs.length (rs.map (Value.int .u64))) x5 w1 := hR 5 (by decide)
  clear hR hD
  subst d0
  subst d1
  obtain ⟨ar, cr, rfl, hown⟩ := d2
  subst d3
  subst d4
  obtain ⟨ar, cr, rfl, hown⟩ := d5
  refine wpAny_ready (rs := [6]) (by kernel_rfl) (by simp) (AllReady.cons rfl (fun KK hK => ?_) AllReady.nil)
  have G := F4.out.next hb1
  have kf0 := G.f 4 0 rfl rfl
  have kf1 := G.f 4 1 rfl rfl
  have kf2 := G.f 4 2 rfl rfl
  have kf3 := G.f 4 3 rfl rfl
  have kf4 := G.f 4 4 rfl rfl
  have k0 := G.c 4 0 rfl rfl
  have k1 := G.c 4 1 rfl rfl
  have k2 := G.c 4 2 rfl rfl
  have k3 := G.c 4 3 rfl rfl
  have k4 := G.c 4 4 rfl rfl
  go_simp
  refine hK _ _ ?_
  clear hK KK
  try simp only [putAll, Act.put, List.setIfInBounds_toArray, List.set_cons_zero, List.set_cons_succ]
  refine wpAny_done (by kernel_rfl) ?_ _
  have F5 := Lib.hid ((F4.out.addO hb1 hown).set 4 rfl (by simp) [.slice ar rs.length cr, .int .u64 (s.a : Nat), .int .u64 (s.b : Nat), .int .u64 (s.c : Nat), .int .u64 (s.d : Nat)] rfl)
  simp only [List.nil_append, List.cons_append, List.set_cons_zero, List.set_cons_succ] at F5
  obtain ⟨W5, hW5⟩ : ∃ W5, setL w1 (w.heap.size + 1 + 1 + 1 + 1) 0 [.slice ar rs.length cr, .int .u64 (s.a : Nat), .int .u64 (s.b : Nat), .int .u64 (s.c : Nat), .int .u64 (s.d : Nat)] = W5 := ⟨_, rfl⟩
  rw [hW5] at F5
  simp only [setL, Nat.reduceAdd] at hW5
  rw [hW5]
  clear hW5 F4 G hb1 hown k0 kf0 k1 kf1 k2 kf2 k3 kf3 k4 kf4 x6
  have c3_0 := F5.out.c 3 0 rfl rfl
  have c3_1 := F5.out.c 3 1 rfl rfl
  have c3_2 := F5.out.c 3 2 rfl rfl
  go_upto_if 50 with fail
  go_cut [11] from 50 to 73 (fun s11 wx => s11 = .int .i64 0 ∧ ∃ ao co ar cr, Hid (Fr w.heap.size w wx [(w.heap.size, [.slice a xs.length c, .int .i64 (A : Int), .int .i64 (E : Int)]), (w.heap.size + 1, [.slice a2 rs.length c2, .int .u64 (s.a : Nat), .int .u64 (s.b : Nat), .int .u64 (s.c : Nat), .int .u64 (s.d : Nat)]), (w.heap.size + 1 + 1, [.slice none 0 0]), (w.heap.size + 1 + 1 + 1, [.slice ao (nxO xs rs s A N).length co, .int .i64 (nxA A N : Nat), .int .i64 (nxE A E N : Nat)]), (w.heap.size + 1 + 1 + 1 + 1, [.slice ar (nxR rs s A N).length cr, .int .u64 ((nxS rs s A N).a : Nat), .int .u64 ((nxS rs s A N).b : Nat), .int .u64 ((nxS rs s A N).c : Nat), .int .u64 ((nxS rs s A N).d : Nat)])] [(.i64, a, xs), (.u64, a2, rs)] [⟨3, .slice ao (nxO xs rs s A N).length co, (nxO xs rs s A N).length, (nxO xs rs s A N).map (Value.int .i64)⟩, ⟨24, .slice ar (nxR rs s A N).length cr, (nxR rs s A N).length, (nxR rs s A N).map (Value.int .u64)⟩] []))
  case first =>
    by_cases hAm : A = m
    · have e1 : ((A : Int) == (m : Int)) = true := by simp; omega
      have hE5 : ((E : Int) == 1048576) = false := by have := HBD.out; simp; omega
      have HSH := Lib.hid (fun W (h : Ints .u64 W W.heap.size a2 rs) => shuffle_any a2 c2 rs s N W HS.out h hl HCC.out.1 HCC.out.2 (by have := HMN.out; omega))
      rw [HMN.out] at HSH
      have HAM := Lib.hid hAm
      clear hAm
      have b1_0 := F5.out.c 1 0 rfl rfl
      have b1_1 := F5.out.c 1 1 rfl rfl
      have b1_2 := F5.out.c 1 2 rfl rfl
      have b1_3 := F5.out.c 1 3 rfl rfl
      have b1_4 := F5.out.c 1 4 rfl rfl
      have bf3_0 := F5.out.f 3 0 rfl rfl
      have bf3_1 := F5.out.f 3 1 rfl rfl
      have bf3_2 := F5.out.f 3 2 rfl rfl
      have bf4_0 := F5.out.f 4 0 rfl rfl
      have bf4_1 := F5.out.f 4 1 rfl rfl
      have bf4_2 := F5.out.f 4 2 rfl rfl
      have bf4_3 := F5.out.f 4 3 rfl rfl
      have bf4_4 := F5.out.f 4 4 rfl rfl
      have b4_0 := F5.out.c 4 0 rfl rfl
      have b4_1 := F5.out.c 4 1 rfl rfl
      have b4_2 := F5.out.c 4 2 rfl rfl
      have b4_3 := F5.out.c 4 3 rfl rfl
      have b4_4 := F5.out.c 4 4 rfl rfl
      go_wp2_with (go_at_call 80; refine (HSH.out _ (F5.out.lw 1 rfl)).mono ?_; rintro e w6 hsf; obtain ⟨al, cl, ag, cg, rfl, hfr⟩ := hsf.fr; have F6 := Lib.hid (F5.out.join hfr); simp only [List.cons_append, List.nil_append] at F6; clear hsf hfr b1_0 b1_1 b1_2 b1_3 b1_4 bf3_0 bf3_1 bf3_2 bf4_0 bf4_1 bf4_2 bf4_3 bf4_4 b4_0 b4_1 b4_2 b4_3 b4_4 c3_0 c3_1 c3_2; have d3_0 := F6.out.c 3 0 rfl rfl; have d3_1 := F6.out.c 3 1 rfl rfl; have d3_2 := F6.out.c 3 2 rfl rfl; have d4_0 := F6.out.c 4 0 rfl rfl; have d4_1 := F6.out.c 4 1 rfl rfl; have d4_2 := F6.out.c 4 2 rfl rfl; have d4_3 := F6.out.c 4 3 rfl rfl; have d4_4 := F6.out.c 4 4 rfl rfl; have df3_0 := F6.out.f 3 0 rfl rfl; have df3_1 := F6.out.f 3 1 rfl rfl; have df3_2 := F6.out.f 3 2 rfl rfl; have df4_0 := F6.out.f 4 0 rfl rfl; have df4_1 := F6.out.f 4 1 rfl rfl; have df4_2 := F6.out.f 4 2 rfl rfl; have df4_3 := F6.out.f 4 3 rfl rfl; have df4_4 := F6.out.f 4 4 rfl rfl)
      go_meet
      have F7 := ((((F6.out.setC 3 0 rfl (by simp) (.slice al (lst N rs s N).length cl)).set 4 rfl (by simp) [.slice ag (tur N rs s N).1.length cg, .int .u64 ((tur N rs s N).2.a : Nat), .int .u64 ((tur N rs s N).2.b : Nat), .int .u64 ((tur N rs s N).2.c : Nat), .int .u64 ((tur N rs s N).2.d : Nat)] rfl).setC 3 1 rfl (by simp) (.int .i64 0)).setC 3 2 rfl (by simp) (.int .i64 ((E : Int) + 1)))
      have hA2 : A = N + 1 := by have := HAM.out; have := HMN.out; omega
      have eO : nxO xs rs s A N = lst N rs s N := if_pos hA2
      have eA : nxA A N = 0 := if_pos hA2
      have eE : nxE A E N = E + 1 := if_pos hA2
      have eR : nxR rs s A N = (tur N rs s N).1 := if_pos hA2
      have eS : nxS rs s A N = (tur N rs s N).2 := if_pos hA2
      refine ⟨rfl, al, cl, ag, cg, Lib.hid ?_⟩
      rw [eO, eA, eE, eR, eS]
      exact F7.less (List.Sublist.refl _) (List.Sublist.refl _) (by simp) (List.Sublist.refl _)
    · have e1 : ((A : Int) == (m : Int)) = false := by simp; omega
      have HAM := Lib.hid hAm
      clear hAm
      go_wp2
      go_meet
      have hA2 : ¬ A = N + 1 := by have := HAM.out; have := HMN.out; omega
      have eO : nxO xs rs s A N = xs := if_neg hA2
      have eA : nxA A N = A := if_neg hA2
      have eE : nxE A E N = E := if_neg hA2
      have eR : nxR rs s A N = rs := if_neg hA2
      have eS : nxS rs s A N = s := if_neg hA2
      refine ⟨rfl, ao, co, ar, cr, Lib.hid ?_⟩
      rw [eO, eA, eE, eR, eS]
      exact F5.out
  case rest =>
    obtain ⟨rfl, ao, co, ar, cr, FX⟩ := hcut
    have hOX := nx_once (rs := rs) (s := s) (A := A) (N := N) (xs := xs) (by rw [HMN.out]; exact HON.out)
    have hAX := nxA_lt (A := A) (N := N) (by rw [HMN.out]; omega)
    have hEX := nxE_le A E N
    rw [HMN.out] at hOX hAX
    have hXL := hOX.len
    have HWF := Lib.hid (once_wf hOX (by omega))
    obtain ⟨X, hX⟩ : ∃ X, nxO xs rs s A N = X := ⟨_, rfl⟩
    obtain ⟨A1, hA1⟩ : ∃ A1, nxA A N = A1 := ⟨_, rfl⟩
    obtain ⟨E1, hE1⟩ : ∃ E1, nxE A E N = E1 := ⟨_, rfl⟩
    obtain ⟨R1, hR1⟩ : ∃ E1, nxR rs s A N = E1 := ⟨_, rfl⟩
    obtain ⟨S1, hS1⟩ : ∃ E1, nxS rs s A N = E1 := ⟨_, rfl⟩
    rw [hX, hA1, hE1, hR1, hS1] at FX
    rw [hX] at hXL HWF
    rw [hXL] at FX
    rw [hA1] at hAX
    rw [hE1] at hEX
    have HEQ := Lib.hid (And.intro hX (And.intro hA1 (And.intro hE1 (And.intro hR1 hS1))))
    have HXM := Lib.hid hXL
    clear hOX hX hA1 hE1 hR1 hS1 hXL F5 c3_0 c3_1 c3_2
    obtain ⟨a0, co0, he, hsh⟩ := own_shape (FX.out.r 0 rfl)
    simp only [Value.slice.injEq] at he
    obtain ⟨rfl, _, rfl⟩ := he
    obtain ⟨g, rfl, _⟩ := hsh.resolve_left (by simp; omega)
    have hcap : m ≤ co ∧ co ≤ 9223372036854775807 := by
      rcases (FX.out.r 0 rfl).2 with ⟨h, _⟩ | ⟨g2, cap, cur, h, _, _, h3, h4, _⟩
      · cases h
      · simp only [Value.slice.injEq] at h; obtain ⟨_, _, rfl⟩ := h; unfold maxLen at h4; exact ⟨h3, by omega⟩
    obtain ⟨hcap1, hcap2⟩ := hcap
    clear hsh
    have c3_0 := FX.out.c 3 0 rfl rfl
    have c3_1 := FX.out.c 3 1 rfl rfl
    have c3_2 := FX.out.c 3 2 rfl rfl
    have hbt := fun w => Lib.hid (batches_any (some ⟨g, 0, none⟩) m co (A1 : Int) (E1 : Int) (size : Int) w)
    go_upto_block 0 with (go_at_call 81; refine (hbt _).out.mono ?_; rintro e w8 ⟨rfl, rfl⟩)
    obtain ⟨T, hT⟩ : ∃ T, wc.heap.size = T := ⟨_, rfl⟩
    rw [hT]
    have F8 := Lib.hid ((FX.out.box1 (b := T) hT [.slice (some ⟨g, 0, none⟩) m co, .int .i64 (A1 : Int), .int .i64 (E1 : Int)] 73).box1 (b := T + 1) (by simp [hT]) [.int .i64 (size : Int)] 3)
    simp only [List.nil_append, List.cons_append] at F8
    have hWz : ((wc.alloc (.cells #[.slice (some ⟨g, 0, none⟩) m co, .int .i64 (A1 : Int), .int .i64 (E1 : Int)] 73)).alloc (.cells #[.int .i64 (size : Int)] 3)).heap.size = T + 2 := by simp [hT]
    obtain ⟨W8, hW8⟩ : ∃ W8, ((wc.alloc (.cells #[.slice (some ⟨g, 0, none⟩) m co, .int .i64 (A1 : Int), .int .i64 (E1 : Int)] 73)).alloc (.cells #[.int .i64 (size : Int)] 3)) = W8 := ⟨_, rfl⟩
    rw [hW8] at F8 hWz ⊢
    clear hW8 hT c3_0 c3_1 c3_2 hbt FX
    go_wp2
    refine wpIn_wide.1 (wpIn_rangeFunc_any (n := 9) rfl (by omega) (gf := 91) (lb := #[.pointer (some ⟨T, 0, none⟩), .pointer (some ⟨T + 1, 0, none⟩)]) rfl trivial (enters_of Try.func91 (by kernel_rfl) rfl) (T + 2) hWz
      (fun _ => False) (fun cc W2 => cc = .exit 0 ∧ ∃ ai ci o, Hid (Fr w.heap.size w W2 [(w.heap.size, [.slice a xs.length c, .int .i64 (A : Int), .int .i64 (E : Int)]), (w.heap.size + 1, [.slice a2 rs.length c2, .int .u64 (s.a : Nat), .int .u64 (s.b : Nat), .int .u64 (s.c : Nat), .int .u64 (s.d : Nat)]), (w.heap.size + 1 + 1, [.slice ai ((X.drop A1).take ((min (A1 + size) m) - A1)).length ci]), (w.heap.size + 1 + 1 + 1, [.slice (some ⟨g, 0, none⟩) m co, .int .i64 ((min (A1 + size) m) : Nat), .int .i64 (E1 : Int)]), (w.heap.size + 1 + 1 + 1 + 1, [.slice ar R1.length cr, .int .u64 (S1.a : Nat), .int .u64 (S1.b : Nat), .int .u64 (S1.c : Nat), .int .u64 (S1.d : Nat)]), (T, [.slice (some ⟨g, 0, none⟩) m co, .int .i64 (A1 : Int), .int .i64 (E1 : Int)]), (T + 1, [.int .i64 (size : Int)])] [(.i64, a, xs), (.u64, a2, rs)] [⟨3, .slice (some ⟨g, 0, none⟩) m co, m, X.map (Value.int .i64)⟩, ⟨24, .slice ar R1.length cr, R1.length, R1.map (Value.int .u64)⟩, ⟨3, .slice ai ((X.drop A1).take ((min (A1 + size) m) - A1)).length ci, ((X.drop A1).take ((min (A1 + size) m) - A1)).length, ((X.drop A1).take ((min (A1 + size) m) - A1)).map (Value.int .i64)⟩] [(T + 2, .deferred (some [])), (T + 2 + 1, o)])) ?hcall (fun _ _ _ h => h.elim) ?hstop)
    case hcall =>
      intro fn R hfn hR
      have HR := Lib.hid hR
      clear hR
      have F9 := Lib.hid ((F8.out.recM (b := T + 2) hWz (.deferred (some [])) rfl).recM (b := T + 2 + 1) (by simp [hWz]) (.loop (R .ready none)) rfl)
      simp only [List.nil_append, List.cons_append] at F9
      obtain ⟨W9, hW9⟩ : ∃ W9, (W8.alloc (.deferred (some []))).alloc (.loop (R .ready none)) = W9 := ⟨_, rfl⟩
      rw [hW9] at F9 ⊢
      clear hW9
      refine (batchIter 8 (by omega) (T + 2 + 1) T (T + 1) g 0 co m A1 size (E1 : Int) W9 (fun W2 => ∃ cc, (cc = .exit 0 ∧ ∃ ai ci o, Hid (Fr w.heap.size w W2 [(w.heap.size, [.slice a xs.length c, .int .i64 (A : Int), .int .i64 (E : Int)]), (w.heap.size + 1, [.slice a2 rs.length c2, .int .u64 (s.a : Nat), .int .u64 (s.b : Nat), .int .u64 (s.c : Nat), .int .u64 (s.d : Nat)]), (w.heap.size + 1 + 1, [.slice ai ((X.drop A1).take ((min (A1 + size) m) - A1)).length ci]), (w.heap.size + 1 + 1 + 1, [.slice (some ⟨g, 0, none⟩) m co, .int .i64 ((min (A1 + size) m) : Nat), .int .i64 (E1 : Int)]), (w.heap.size + 1 + 1 + 1 + 1, [.slice ar R1.length cr, .int .u64 (S1.a : Nat), .int .u64 (S1.b : Nat), .int .u64 (S1.c : Nat), .int .u64 (S1.d : Nat)]), (T, [.slice (some ⟨g, 0, none⟩) m co, .int .i64 (A1 : Int), .int .i64 (E1 : Int)]), (T + 1, [.int .i64 (size : Int)])] [(.i64, a, xs), (.u64, a2, rs)] [⟨3, .slice (some ⟨g, 0, none⟩) m co, m, X.map (Value.int .i64)⟩, ⟨24, .slice ar R1.length cr, R1.length, R1.map (Value.int .u64)⟩, ⟨3, .slice ai ((X.drop A1).take ((min (A1 + size) m) - A1)).length ci, ((X.drop A1).take ((min (A1 + size) m) - A1)).length, ((X.drop A1).take ((min (A1 + size) m) - A1)).map (Value.int .i64)⟩] [(T + 2, .deferred (some [])), (T + 2 + 1, o)])) ∧ W2.heap[T + 2 + 1]? = some (.loop (R .done (some cc)))) hAX hcap1 hcap2 (by omega) h1 h2 (F9.out.c 5 0 rfl rfl) (F9.out.c 5 1 rfl rfl) (F9.out.c 6 0 rfl rfl) ?hY).mono ?post
      case post =>
        rintro e W2 ⟨hv, h⟩
        exact ⟨hv, .inr h⟩
      case hY =>
        have hmin1 : A1 < min (A1 + size) m := by omega
        have hmin2 : min (A1 + size) m ≤ m := by omega
        obtain ⟨En, hEn⟩ : ∃ En, min (A1 + size) m = En := ⟨_, rfl⟩
        rw [hEn] at hmin1 hmin2
        rw [hEn]
        clear hEn
        have HSLl : Hid (((X.drop A1).take (En - A1)).length = En - A1) := Lib.hid (by have := HXM.out; simp; omega)
        obtain ⟨SL, hSL⟩ : ∃ SL, ((X.drop A1).take (En - A1)) = SL := ⟨_, rfl⟩
        rw [hSL] at HSLl
        rw [hSL]
        have HSE := Lib.hid hSL
        clear hSL
        refine yieldAt_round hfn HR.out (F9.out.m 1 rfl) rfl ?_
        gi_wp2
        refine ⟨F9.out.m 1 rfl, ?_⟩
        have F10 := Lib.hid (F9.out.putM 1 rfl (.loop (R .busy none)) rfl)
        simp only [List.set_cons_zero, List.set_cons_succ] at F10
        obtain ⟨V, hV⟩ : ∃ V, W9.putObj (T + 2 + 1) (.loop (R .busy none)) = V := ⟨_, rfl⟩
        rw [hV] at F10 ⊢
        clear hV
        have hcl := clone_any (some ⟨g, 0 + A1, none⟩) (co - A1) ((X.drop A1).take (En - A1)) V (F10.out.sub 0 (k := .i64) (e := 3) (xs := X) rfl HWF.out A1 (En - A1) (by omega)) (by rw [HSE.out, HSLl.out]; omega)
        rw [HSE.out, HSLl.out, Nat.zero_add] at hcl
        have HCL2 := Lib.hid (CallsIn.inRound (T + 2 + 1) (callsIn_wide.2 hcl : CallsIn Fence.wide 6 _ _ _ _ _))
        clear hcl
        (repeat gi_step)
        refine ⟨trivial, ?_⟩
        refine HCL2.out.mono ?_
        rintro e w2 ⟨v, rfl, hown, hb⟩
        obtain ⟨ai, ci, rfl, _⟩ := own_shape hown
        have F11 := Lib.hid (F10.out.addO hb hown)
        simp only [List.cons_append, List.nil_append] at F11
        clear hown hb HCL2
        have d2_0 := F11.out.c 2 0 rfl rfl
        have d3_0 := F11.out.c 3 0 rfl rfl
        have d3_1 := F11.out.c 3 1 rfl rfl
        have d3_2 := F11.out.c 3 2 rfl rfl
        have df2_0 := F11.out.f 2 0 rfl rfl
        have df3_0 := F11.out.f 3 0 rfl rfl
        have df3_1 := F11.out.f 3 1 rfl rfl
        have df3_2 := F11.out.f 3 2 rfl rfl
        dsimp only
        (repeat gi_step)
        have F12 := ((F11.out.setC 2 0 rfl (by simp) (.slice ai SL.length ci)).setC 3 1 rfl (by simp) (.int .i64 (En : Int)))
        have hl12 := F12.m 1 rfl
        have F13 := F12.putM 1 rfl (.loop (R .done (some (.exit 0)))) rfl
        refine ⟨hl12, ?_⟩
        first | exact ⟨rfl, .exit 0, ⟨rfl, ai, ci, _, Lib.hid F13⟩, F13.m 1 rfl⟩ | exact ⟨trivial, .exit 0, ⟨rfl, ai, ci, _, Lib.hid F13⟩, F13.m 1 rfl⟩ | exact ⟨.exit 0, ⟨rfl, ai, ci, _, Lib.hid F13⟩, F13.m 1 rfl⟩ | exact ⟨⟨ai, ci, _, Lib.hid F13⟩, F13.m 1 rfl⟩
    case hstop =>
      rintro cc W2 o hoc ⟨rfl, ai, ci, o2, FZ⟩
      have FY := Lib.hid (FZ.out.putM 1 rfl o hoc)
      simp only [List.set_cons_zero, List.set_cons_succ] at FY
      generalize W2.putObj (T + 2 + 1) o = W3 at *
      clear FZ F8
      have HSLl : Hid (((X.drop A1).take ((min (A1 + size) m) - A1)).length = (min (A1 + size) m) - A1) := Lib.hid (by have := HXM.out; simp; omega)
      obtain ⟨En, hEn⟩ : ∃ En, min (A1 + size) m = En := ⟨_, rfl⟩
      rw [hEn] at FY HSLl
      obtain ⟨SL, hSL⟩ : ∃ SL, ((X.drop A1).take (En - A1)) = SL := ⟨_, rfl⟩
      rw [hSL] at FY HSLl
      have HSE := Lib.hid hSL
      have HEE := Lib.hid hEn
      clear hSL hEn
      refine wpIn_wide.2 ?_
      go_wp2
      refine wp_region_inv (w := W3) 7 (fun _ _ => True) (fun _ W => Fr w.heap.size w W [(w.heap.size, [.slice a xs.length c, .int .i64 (A : Int), .int .i64 (E : Int)]), (w.heap.size + 1, [.slice a2 rs.length c2, .int .u64 (s.a : Nat), .int .u64 (s.b : Nat), .int .u64 (s.c : Nat), .int .u64 (s.d : Nat)]), (w.heap.size + 1 + 1, [.slice ai SL.length ci]), (w.heap.size + 1 + 1 + 1, [.slice (some ⟨g, 0, none⟩) m co, .int .i64 (En : Int), .int .i64 (E1 : Int)]), (w.heap.size + 1 + 1 + 1 + 1, [.slice ar R1.length cr, .int .u64 (S1.a : Nat), .int .u64 (S1.b : Nat), .int .u64 (S1.c : Nat), .int .u64 (S1.d : Nat)]), (T, [.slice (some ⟨g, 0, none⟩) m co, .int .i64 (A1 : Int), .int .i64 (E1 : Int)]), (T + 1, [.int .i64 (size : Int)])] [(.i64, a, xs), (.u64, a2, rs)] [⟨3, .slice (some ⟨g, 0, none⟩) m co, m, X.map (Value.int .i64)⟩, ⟨24, .slice ar R1.length cr, R1.length, R1.map (Value.int .u64)⟩, ⟨3, .slice ai SL.length ci, SL.length, SL.map (Value.int .i64)⟩] [(T + 2, .deferred (some [])), (T + 2 + 1, o)]) [3, 4, 5] [(fun u _ => u = .slice ai SL.length ci), (fun u _ => u = .agg #[.slice (some ⟨g, 0, none⟩) m co, .int .i64 (En : Int), .int .i64 (E1 : Int)]), (fun u _ => u = .agg #[.slice ar R1.length cr, .int .u64 (S1.a : Nat), .int .u64 (S1.b : Nat), .int .u64 (S1.c : Nat), .int .u64 (S1.d : Nat)]), (fun _ _ => True), (fun _ _ => True), (fun _ _ => True), (fun u _ => u = .int .i64 0)] [some 83, some 84, some 85, none, none, none, some 11] (by kernel_rfl) (by kernel_rfl) rfl (by kernel_rfl) (by kernel_rfl) (by decide) (by decide) (fun _ _ => trivial) trivial FY.out.drew (BorneAll.at (.cons (borne_eq _) (.cons (borne_eq _) (.cons (borne_eq _) (.cons (fun _ _ _ _ _ => trivial) (.cons (fun _ _ _ _ _ => trivial) (.cons (fun _ _ _ _ _ => trivial) (.cons (borne_eq _) .nil)))))))) (fun vs b hvl hvb => ?_)
      obtain ⟨x0, x1, x2, x3, x4, x5, x6, rfl⟩ : ∃ x0 x1 x2 x3 x4 x5 x6, vs = [x0, x1, x2, x3, x4, x5, x6] := lst7 hvl
      clear hvl
      simp only [putAll, Act.put, List.setIfInBounds_toArray, List.set_cons_zero, List.set_cons_succ] at hvb
      subst hvb
      refine ⟨(.snoc (.snoc (.snoc (.snoc (.snoc (.snoc (.snoc .zero (InvOb.intro (d := (some 83)) (r := fun u _ => u = .slice ai SL.length ci) 0 0 rfl rfl rfl (by kernel_rfl) (by kernel_rfl) rfl ?io17x0)) (InvOb.intro (d := (some 84)) (r := fun u _ => u = .agg #[.slice (some ⟨g, 0, none⟩) m co, .int .i64 (En : Int), .int .i64 (E1 : Int)]) 0 1 rfl rfl rfl (by kernel_rfl) (by kernel_rfl) rfl ?io17x1)) (InvOb.intro (d := (some 85)) (r := fun u _ => u = .agg #[.slice ar R1.length cr, .int .u64 (S1.a : Nat), .int .u64 (S1.b : Nat), .int .u64 (S1.c : Nat), .int .u64 (S1.d : Nat)]) 0 2 rfl rfl rfl (by kernel_rfl) (by kernel_rfl) rfl ?io17x2)) (InvOb.put (d := none) (r := fun _ _ => True) 0 rfl rfl rfl (by kernel_rfl) (by kernel_rfl) rfl ?io17x3)) (InvOb.put (d := none) (r := fun _ _ => True) 1 rfl rfl rfl (by kernel_rfl) (by kernel_rfl) rfl ?io17x4)) (InvOb.put (d := none) (r := fun _ _ => True) 2 rfl rfl rfl (by kernel_rfl) (by kernel_rfl) rfl ?io17x5)) (InvOb.intro (d := (some 11)) (r := fun u _ => u = .int .i64 0) 3 3 rfl rfl rfl (by kernel_rfl) (by kernel_rfl) rfl ?io17x6)), ?iend17⟩
      case io17x0 =>
        intro k1 w1 hk0 hk1 hb1 hS hd KK hK
        clear hd
        have k0 := hS.c 2 0 rfl rfl
        simp only [Act.put, List.setIfInBounds_toArray, List.set_cons_zero, List.set_cons_succ] at hK
        go_simp
        first | exact hK.out _ _ trivial hS rfl | (have hk := hK.out _ _ trivial hS rfl; revert hk; go_simp)
      case io17x1 =>
        intro k1 w1 hk0 hk1 hb1 hS hd KK hK
        clear hd
        have k0 := hS.c 3 0 rfl rfl
        have k1 := hS.c 3 1 rfl rfl
        have k2 := hS.c 3 2 rfl rfl
        simp only [Act.put, List.setIfInBounds_toArray, List.set_cons_zero, List.set_cons_succ] at hK
        go_simp
        first | exact hK.out _ _ trivial hS rfl | (have hk := hK.out _ _ trivial hS rfl; revert hk; go_simp)
      case io17x2 =>
        intro k1 w1 hk0 hk1 hb1 hS hd KK hK
        clear hd
        have k0 := hS.c 4 0 rfl rfl
        have k1 := hS.c 4 1 rfl rfl
        have k2 := hS.c 4 2 rfl rfl
        have k3 := hS.c 4 3 rfl rfl
        have k4 := hS.c 4 4 rfl rfl
        simp only [Act.put, List.setIfInBounds_toArray, List.set_cons_zero, List.set_cons_succ] at hK
        go_simp
        first | exact hK.out _ _ trivial hS rfl | (have hk := hK.out _ _ trivial hS rfl; revert hk; go_simp)
      case io17x3 =>
        intro w1 hb1 hS hd KK hK
        have d0 : x0 = .slice ai SL.length ci := hd 0 (by kernel_rfl)
        clear hd
        subst d0
        have k0 := hS.c 2 0 rfl rfl
        have kf0 := hS.f 2 0 rfl rfl
        simp only [Act.put, List.setIfInBounds_toArray, List.set_cons_zero, List.set_cons_succ] at hK
        go_simp
        first | exact hK.out undef _ trivial (hS.set 2 rfl (by simp) [.slice ai SL.length ci] rfl) trivial | (have hk := hK.out undef _ trivial (hS.set 2 rfl (by simp) [.slice ai SL.length ci] rfl) trivial; revert hk; go_simp)
      case io17x4 =>
        intro w1 hb1 hS hd KK hK
        have d0 : x0 = .slice ai SL.length ci := hd 0 (by kernel_rfl)
        have d1 : x1 = .agg #[.slice (some ⟨g, 0, none⟩) m co, .int .i64 (En : Int), .int .i64 (E1 : Int)] := hd 1 (by kernel_rfl)
        clear hd
        subst d0
        subst d1
        have k0 := hS.c 3 0 rfl rfl
        have k1 := hS.c 3 1 rfl rfl
        have k2 := hS.c 3 2 rfl rfl
        have kf0 := hS.f 3 0 rfl rfl
        have kf1 := hS.f 3 1 rfl rfl
        have kf2 := hS.f 3 2 rfl rfl
        simp only [Act.put, List.setIfInBounds_toArray, List.set_cons_zero, List.set_cons_succ] at hK
        go_simp
        first | exact hK.out undef _ trivial (hS.set 3 rfl (by simp) [.slice (some ⟨g, 0, none⟩) m co, .int .i64 (En : Int), .int .i64 (E1 : Int)] rfl) trivial | (have hk := hK.out undef _ trivial (hS.set 3 rfl (by simp) [.slice (some ⟨g, 0, none⟩) m co, .int .i64 (En : Int), .int .i64 (E1 : Int)] rfl) trivial; revert hk; go_simp)
      case io17x5 =>
        intro w1 hb1 hS hd KK hK
        have d0 : x0 = .slice ai SL.length ci := hd 0 (by kernel_rfl)
        have d1 : x1 = .agg #[.slice (some ⟨g, 0, none⟩) m co, .int .i64 (En : Int), .int .i64 (E1 : Int)] := hd 1 (by kernel_rfl)
        have d2 : x2 = .agg #[.slice ar R1.length cr, .int .u64 (S1.a : Nat), .int .u64 (S1.b : Nat), .int .u64 (S1.c : Nat), .int .u64 (S1.d : Nat)] := hd 2 (by kernel_rfl)
        clear hd
        subst d0
        subst d1
        subst d2
        have k0 := hS.c 4 0 rfl rfl
        have k1 := hS.c 4 1 rfl rfl
        have k2 := hS.c 4 2 rfl rfl
        have k3 := hS.c 4 3 rfl rfl
        have k4 := hS.c 4 4 rfl rfl
        have kf0 := hS.f 4 0 rfl rfl
        have kf1 := hS.f 4 1 rfl rfl
        have kf2 := hS.f 4 2 rfl rfl
        have kf3 := hS.f 4 3 rfl rfl
        have kf4 := hS.f 4 4 rfl rfl
        simp only [Act.put, List.setIfInBounds_toArray, List.set_cons_zero, List.set_cons_succ] at hK
        go_simp
        first | exact hK.out undef _ trivial (hS.set 4 rfl (by simp) [.slice ar R1.length cr, .int .u64 (S1.a : Nat), .int .u64 (S1.b : Nat), .int .u64 (S1.c : Nat), .int .u64 (S1.d : Nat)] rfl) trivial | (have hk := hK.out undef _ trivial (hS.set 4 rfl (by simp) [.slice ar R1.length cr, .int .u64 (S1.a : Nat), .int .u64 (S1.b : Nat), .int .u64 (S1.c : Nat), .int .u64 (S1.d : Nat)] rfl) trivial; revert hk; go_simp)
      case io17x6 =>
        intro k1 w1 hk0 hk1 hb1 hS hd KK hK
        have d0 : x0 = .slice ai SL.length ci := hd 0 (by kernel_rfl)
        have d1 : x1 = .agg #[.slice (some ⟨g, 0, none⟩) m co, .int .i64 (En : Int), .int .i64 (E1 : Int)] := hd 1 (by kernel_rfl)
        have d2 : x2 = .agg #[.slice ar R1.length cr, .int .u64 (S1.a : Nat), .int .u64 (S1.b : Nat), .int .u64 (S1.c : Nat), .int .u64 (S1.d : Nat)] := hd 2 (by kernel_rfl)
        clear hd
        subst d0
        subst d1
        subst d2
        simp only [Act.put, List.setIfInBounds_toArray, List.set_cons_zero, List.set_cons_succ] at hK
        go_simp
        first | exact hK.out _ _ trivial hS rfl | (have hk := hK.out _ _ trivial hS rfl; revert hk; go_simp)
      case iend17 =>
        intro w1 hb1 hS hR
        have d0 : x0 = .slice ai SL.length ci := hR 0 (by decide)
        have d1 : x1 = .agg #[.slice (some ⟨g, 0, none⟩) m co, .int .i64 (En : Int), .int .i64 (E1 : Int)] := hR 1 (by decide)
        have d2 : x2 = .agg #[.slice ar R1.length cr, .int .u64 (S1.a : Nat), .int .u64 (S1.b : Nat), .int .u64 (S1.c : Nat), .int .u64 (S1.d : Nat)] := hR 2 (by decide)
        have d6 : x6 = .int .i64 0 := hR 6 (by decide)
        clear hR
        subst d0
        subst d1
        subst d2
        subst d6
        try simp only [putAll, Act.put, List.setIfInBounds_toArray, List.set_cons_zero, List.set_cons_succ]
        have FW := Lib.hid hS
        clear hS hb1 FY
        go_wp2
        refine ⟨by simp, .inl ⟨_, _, rfl, run_takeDeferred (FW.out.m 0 rfl), ?_⟩⟩
        have FV := FW.out.putM 0 rfl (.deferred none) rfl
        simp only [List.set_cons_zero, List.set_cons_succ] at FV
        generalize w1.putObj (T + 2) (.deferred none) = U at *
        have c2_0 := FV.c 2 0 rfl rfl
        have c3_0 := FV.c 3 0 rfl rfl
        have c3_1 := FV.c 3 1 rfl rfl
        have c3_2 := FV.c 3 2 rfl rfl
        have c4_0 := FV.c 4 0 rfl rfl
        have c4_1 := FV.c 4 1 rfl rfl
        have c4_2 := FV.c 4 2 rfl rfl
        have c4_3 := FV.c 4 3 rfl rfl
        have c4_4 := FV.c 4 4 rfl rfl
        obtain ⟨hq1, hq2, hq3, hq4, hq5⟩ := HEQ.out
        have hpost : RetNext w SL X (En : Int) (E1 : Int) R1 S1 0 (.returned (.tuple #[.slice ai SL.length ci, .agg #[.slice (some ⟨g, 0, none⟩) m co, .int .i64 (En : Int), .int .i64 (E1 : Int)], .agg #[.slice ar R1.length cr, .int .u64 (S1.a : Nat), .int .u64 (S1.b : Nat), .int .u64 (S1.c : Nat), .int .u64 (S1.d : Nat)], .int .i64 0])) U := ⟨ai, ci, some ⟨g, 0, none⟩, co, ar, cr, by rw [HXM.out], by rw [HXM.out]; exact FV.rows⟩
        refine ⟨_, ?_, (show RetNext w (nxI xs rs s A N size) (nxO xs rs s A N) (nxEnd A N size : Nat) (nxE A E N : Nat) (nxR rs s A N) (nxS rs s A N) 0 _ _ from by
        have e1 : nxEnd A N size = En := by unfold nxEnd; rw [hq2, HMN.out, HEE.out]
        have e2 : nxI xs rs s A N size = SL := by unfold nxI; rw [hq1, e1, hq2, HSE.out]
        rw [e1, e2, hq1, hq3, hq4, hq5]
        exact hpost)⟩
        rw [results_ccct rfl]
        go_simp
end Go.Proofs.Ytiejkdnkdmanmaa
