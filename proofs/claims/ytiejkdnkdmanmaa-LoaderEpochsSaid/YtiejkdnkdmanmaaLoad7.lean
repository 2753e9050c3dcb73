/- Walks: the reference's first cursor and next batch. -/
import Derived.Test.YtiejkdnkdmanmaaLoad6
set_option linter.unusedVariables false
set_option linter.unusedSimpArgs false
namespace Go.Proofs.Ytiejkdnkdmanmaa
open Go.RowKit Go.Rt
theorem lst5 {α : Type} {l : List α} (h : l.length = 5) : ∃ x0 x1 x2 x3 x4, l = [x0, x1, x2, x3, x4] := by
  match l, h with
  | [x0, x1, x2, x3, x4], _ => exact ⟨x0, x1, x2, x3, x4, rfl⟩

theorem results_cc {fn : Func} {u p : Tmp} {tu tp : TypeId} (h : fn.results = #[.cell u tu, .cell p tp]) (tmps : Array Value) (P : Program) (w : World) :
    (results fn tmps).run P w = ((asAddr (tmps.getD u undef)).run P w).andThen fun a w₁ => ((loadVar tu a).run P w₁).andThen fun v w₂ => ((asAddr (tmps.getD p undef)).run P w₂).andThen fun a2 w₃ => ((loadVar tp a2).run P w₃).andThen fun v2 w₄ => .ok (.tuple #[v, v2]) w₄ := by
  simp only [results, h]
  simp [Sem.run_bind, Result.andThen]
theorem results_tcct {fn : Func} {t u p z : Tmp} {tu tp : TypeId} (h : fn.results = #[.tmp t, .cell u tu, .cell p tp, .tmp z]) (tmps : Array Value) (P : Program) (w : World) :
    (results fn tmps).run P w = ((asAddr (tmps.getD u undef)).run P w).andThen fun a w₁ => ((loadVar tu a).run P w₁).andThen fun v w₂ => ((asAddr (tmps.getD p undef)).run P w₂).andThen fun a2 w₃ => ((loadVar tp a2).run P w₃).andThen fun v2 w₄ => .ok (.tuple #[tmps.getD t undef, v, v2, tmps.getD z undef]) w₄ := by
  simp only [results, h]
  simp [Sem.run_bind, Result.andThen]
theorem RetShuR.fr {hi0 : Nat} {w w' : World} {l xs : List Int} {s : St} {e : Ending} (h : RetShuR hi0 w l xs s e w') : ∃ a c a2 c2, e = .returned (.tuple #[.slice a l.length c, .agg #[.slice a2 xs.length c2, .int .u64 (s.a : Nat), .int .u64 (s.b : Nat), .int .u64 (s.c : Nat), .int .u64 (s.d : Nat)]]) ∧
    Fr w.heap.size w w' [] [] [⟨3, .slice a l.length c, l.length, l.map (Value.int .i64)⟩] [] ∧ Ints .u64 w' hi0 a2 xs ∧ xs.length ≤ c2 ∧ c2 ≤ 9223372036854775807 := by
  obtain ⟨a, c, a2, c2, h1, h2, h3, h4, h5, h6⟩ := h
  refine ⟨a, c, a2, c2, h1, ⟨h6.size, h6, by simp, .nil, by simp, fun q hq => ?_, by simp, List.pairwise_singleton _ _, by simp, .nil⟩, h3, h4, h5⟩
  simp only [List.mem_cons, List.not_mem_nil, or_false] at hq
  subst hq
  exact h2
def RetStartR (hi0 : Nat) (w : World) (l : List Int) (rs : List Int) (s : St) (e : Ending) (w' : World) : Prop :=
  ∃ ao co ar cr, e = .returned (.tuple #[.agg #[.slice ao l.length co, .int .i64 0, .int .i64 0], .agg #[.slice ar rs.length cr, .int .u64 (s.a : Nat), .int .u64 (s.b : Nat), .int .u64 (s.c : Nat), .int .u64 (s.d : Nat)]]) ∧ Fr w.heap.size w w' [] [] [⟨3, .slice ao l.length co, l.length, l.map (Value.int .i64)⟩] [] ∧ Ints .u64 w' hi0 ar rs ∧ rs.length ≤ cr ∧ cr ≤ 9223372036854775807
/-- A list of which it is known that it lies lower. -/
theorem Ints.lower {k : IntKind} {W W2 : World} {hi hi0 : Nat} {a : Option Addr} {xs : List Int} (h : Ints k W hi a xs) (h2 : Ints k W2 hi0 a xs) : Ints k W hi0 a xs :=
  ⟨h.len, h.wf, fun i hi' => by
    obtain ⟨b, off, e, _, hc⟩ := h.cell i hi'
    obtain ⟨b2, off2, e2, hlt, _⟩ := h2.cell i hi'
    rw [e] at e2
    simp only [Option.some.injEq, Addr.mk.injEq, and_true] at e2
    obtain ⟨rfl, rfl⟩ := e2
    exact ⟨b, off, e, hlt, hc⟩⟩
def RetNextR (hi0 : Nat) (w : World) (ids xs : List Int) (at_ ep : Int) (rs : List Int) (s : St) (z : Int) (e : Ending) (w' : World) : Prop :=
  ∃ ai ci ao co ar cr, e = .returned (.tuple #[.slice ai ids.length ci, .agg #[.slice ao xs.length co, .int .i64 at_, .int .i64 ep], .agg #[.slice ar rs.length cr, .int .u64 (s.a : Nat), .int .u64 (s.b : Nat), .int .u64 (s.c : Nat), .int .u64 (s.d : Nat)], .int .i64 z]) ∧ Fr w.heap.size w w' [] [] [⟨3, .slice ao xs.length co, xs.length, xs.map (Value.int .i64)⟩, ⟨3, .slice ai ids.length ci, ids.length, ids.map (Value.int .i64)⟩] [] ∧ Ints .u64 w' hi0 ar rs ∧ rs.length ≤ cr ∧ cr ≤ 9223372036854775807

set_option maxRecDepth 100000 in
set_option maxHeartbeats 4000000 in
theorem rstart_any (a2 : Option Addr) (c2 : Nat) (rs : List Int) (s : St) (N : Nat) (w : World) (hs : GoodS rs s) (hi0 : Nat) (hh : hi0 ≤ w.heap.size) (hr0 : Ints .u64 w hi0 a2 rs) (hc : rs.length ≤ c2 ∧ c2 ≤ 9223372036854775807) (hN : N + 1 ≤ 1024) :
    Calls Try.prog 56 #[.agg #[.slice a2 rs.length c2, .int .u64 (s.a : Nat), .int .u64 (s.b : Nat), .int .u64 (s.c : Nat), .int .u64 (s.d : Nat)], .int .i64 ((N + 1 : Nat) : Int)] w (RetStartR hi0 w (lst N rs s N) (tur N rs s N).1 (tur N rs s N).2) := by
  have hr := hr0.mono hh
  have HR := Lib.hid hr
  have HR0 := Lib.hid hr0
  have HSH := Lib.hid (fun W (hw : w.heap.size ≤ W.heap.size) (h : Ints .u64 W hi0 a2 rs) => rshuffle_any a2 c2 rs s N W hs hi0 (Nat.le_trans hh hw) h hc.1 hc.2 (by omega))
  clear hr0
  obtain ⟨m, hm⟩ : ∃ m, N + 1 = m := ⟨_, rfl⟩
  rw [hm] at HSH hN ⊢
  have hm1 : 1 ≤ m := by omega
  clear hm hs hr hc
  go_enter Try.func56, Try.ntmps56
  have F1 := Lib.hid ((((Fr.start (w := w) (I := [(.u64, a2, rs)]) (by intro p hp; simp at hp; subst hp; exact HR.out)).box1 (b := w.heap.size) (by simp) [.slice a2 rs.length c2, .int .u64 (s.a : Nat), .int .u64 (s.b : Nat), .int .u64 (s.c : Nat), .int .u64 (s.d : Nat)] 27).box1 (b := w.heap.size + 1) (by simp) [.slice none 0 0, .int .i64 0, .int .i64 0] 73).box1 (b := w.heap.size + 1 + 1) (by simp) [.slice none 0 0, .int .u64 0, .int .u64 0, .int .u64 0, .int .u64 0] 27)
  simp only [List.nil_append, List.cons_append] at F1
  go_upto_region 1 with fail
  obtain ⟨W0, hW0⟩ : ∃ W0, (((w.alloc (.cells #[.slice a2 rs.length c2, .int .u64 (s.a : Nat), .int .u64 (s.b : Nat), .int .u64 (s.c : Nat), .int .u64 (s.d : Nat)] 27)).alloc (.cells #[.slice none 0 0, .int .i64 0, .int .i64 0] 73)).alloc (.cells #[.slice none 0 0, .int .u64 0, .int .u64 0, .int .u64 0, .int .u64 0] 27)) = W0 := ⟨_, rfl⟩
  rw [hW0] at F1 ⊢
  clear hW0
  have c0_0 := F1.out.c 0 0 rfl rfl
  have c0_1 := F1.out.c 0 1 rfl rfl
  have c0_2 := F1.out.c 0 2 rfl rfl
  have c0_3 := F1.out.c 0 3 rfl rfl
  have c0_4 := F1.out.c 0 4 rfl rfl
  have cf0_0 := F1.out.f 0 0 rfl rfl
  have cf0_1 := F1.out.f 0 1 rfl rfl
  have cf0_2 := F1.out.f 0 2 rfl rfl
  have cf0_3 := F1.out.f 0 3 rfl rfl
  have cf0_4 := F1.out.f 0 4 rfl rfl
  go_upto_region 2 with (go_at_call 82; refine (HSH.out _ F1.out.hlo (Ints.lower (F1.out.l 0 rfl) HR0.out)).mono ?_; rintro e w4 hsf; obtain ⟨al, cl, ag, cg, rfl, hfr, hIr, hcr1, hcr2⟩ := hsf.fr; have HIR := Lib.hid hIr; have F4 := Lib.hid ((F1.out.join hfr).addI (hIr.mono hh)); simp only [List.cons_append, List.nil_append] at F4; clear hsf hfr hIr c0_0 c0_1 c0_2 c0_3 c0_4 cf0_0 cf0_1 cf0_2 cf0_3 cf0_4; have d0_0 := F4.out.c 0 0 rfl rfl; have d0_1 := F4.out.c 0 1 rfl rfl; have d0_2 := F4.out.c 0 2 rfl rfl; have d0_3 := F4.out.c 0 3 rfl rfl; have d0_4 := F4.out.c 0 4 rfl rfl; have df0_0 := F4.out.f 0 0 rfl rfl; have df0_1 := F4.out.f 0 1 rfl rfl; have df0_2 := F4.out.f 0 2 rfl rfl; have df0_3 := F4.out.f 0 3 rfl rfl; have df0_4 := F4.out.f 0 4 rfl rfl)
  have F5 := Lib.hid (F4.out.set 0 rfl (by simp) [.slice ag (tur N rs s N).1.length cg, .int .u64 ((tur N rs s N).2.a : Nat), .int .u64 ((tur N rs s N).2.b : Nat), .int .u64 ((tur N rs s N).2.c : Nat), .int .u64 ((tur N rs s N).2.d : Nat)] rfl)
  simp only [List.set_cons_zero, List.set_cons_succ] at F5
  obtain ⟨W5, hW5⟩ : ∃ W5, setL w4 (w.heap.size) 0 [.slice ag (tur N rs s N).1.length cg, .int .u64 ((tur N rs s N).2.a : Nat), .int .u64 ((tur N rs s N).2.b : Nat), .int .u64 ((tur N rs s N).2.c : Nat), .int .u64 ((tur N rs s N).2.d : Nat)] = W5 := ⟨_, rfl⟩
  rw [hW5] at F5
  simp only [setL, Nat.reduceAdd] at hW5
  rw [hW5]
  clear hW5
  refine wp_region_inv (w := W5) 5 (fun _ _ => True) (fun k W => Fr w.heap.size w W [(w.heap.size, [.slice ag (tur N rs s N).1.length cg, .int .u64 ((tur N rs s N).2.a : Nat), .int .u64 ((tur N rs s N).2.b : Nat), .int .u64 ((tur N rs s N).2.c : Nat), .int .u64 ((tur N rs s N).2.d : Nat)]), (w.heap.size + 1, if k = 0 then [.slice none 0 0, .int .i64 0, .int .i64 0] else [.slice al (lst N rs s N).length cl, .int .i64 0, .int .i64 0]), (w.heap.size + 1 + 1, if k ≤ 1 then [.slice none 0 0, .int .u64 0, .int .u64 0, .int .u64 0, .int .u64 0] else [.slice ag (tur N rs s N).1.length cg, .int .u64 ((tur N rs s N).2.a : Nat), .int .u64 ((tur N rs s N).2.b : Nat), .int .u64 ((tur N rs s N).2.c : Nat), .int .u64 ((tur N rs s N).2.d : Nat)])] [(.u64, a2, rs), (.u64, ag, (tur N rs s N).1)] [⟨3, .slice al (lst N rs s N).length cl, (lst N rs s N).length, (lst N rs s N).map (Value.int .i64)⟩] []) [3, 4] [(fun u _ => u = .slice al (lst N rs s N).length cl), (fun u _ => u = .agg #[.slice al (lst N rs s N).length cl, .int .i64 0, .int .i64 0]), (fun u _ => u = .agg #[.slice ag (tur N rs s N).1.length cg, .int .u64 ((tur N rs s N).2.a : Nat), .int .u64 ((tur N rs s N).2.b : Nat), .int .u64 ((tur N rs s N).2.c : Nat), .int .u64 ((tur N rs s N).2.d : Nat)]), (fun _ _ => True), (fun _ _ => True)] [some 13, some 14, some 15, none, none] (by kernel_rfl) (by kernel_rfl) rfl (by kernel_rfl) (by kernel_rfl) (by decide) (by decide) (fun _ _ => trivial) trivial F5.out.drew (BorneAll.at (.cons (borne_eq _) (.cons (borne_eq _) (.cons (borne_eq _) (.cons (fun _ _ _ _ _ => trivial) (.cons (fun _ _ _ _ _ => trivial) .nil)))))) (fun vs b hvl hvb => ?_)
  obtain ⟨x0, x1, x2, x3, x4, rfl⟩ : ∃ x0 x1 x2 x3 x4, vs = [x0, x1, x2, x3, x4] := lst5 hvl
  clear hvl
  simp only [putAll, Act.put, List.setIfInBounds_toArray, List.set_cons_zero, List.set_cons_succ] at hvb
  subst hvb
  refine ⟨(.snoc (.snoc (.snoc (.snoc (.snoc .zero (InvOb.intro (d := (some 13)) (r := fun u _ => u = .slice al (lst N rs s N).length cl) 0 0 rfl rfl rfl (by kernel_rfl) (by kernel_rfl) rfl ?io2x0)) (InvOb.intro (d := (some 14)) (r := fun u _ => u = .agg #[.slice al (lst N rs s N).length cl, .int .i64 0, .int .i64 0]) 0 0 rfl rfl rfl (by kernel_rfl) (by kernel_rfl) rfl ?io2x1)) (InvOb.intro (d := (some 15)) (r := fun u _ => u = .agg #[.slice ag (tur N rs s N).1.length cg, .int .u64 ((tur N rs s N).2.a : Nat), .int .u64 ((tur N rs s N).2.b : Nat), .int .u64 ((tur N rs s N).2.c : Nat), .int .u64 ((tur N rs s N).2.d : Nat)]) 0 1 rfl rfl rfl (by kernel_rfl) (by kernel_rfl) rfl ?io2x2)) (InvOb.put (d := none) (r := fun _ _ => True) 0 rfl rfl rfl (by kernel_rfl) (by kernel_rfl) rfl ?io2x3)) (InvOb.put (d := none) (r := fun _ _ => True) 1 rfl rfl rfl (by kernel_rfl) (by kernel_rfl) rfl ?io2x4)), ?iend2⟩
  case io2x0 =>
    intro k1 w1 hk0 hk1 hb1 hS hd KK hK
    clear hd
    simp only [Act.put, List.setIfInBounds_toArray, List.set_cons_zero, List.set_cons_succ] at hK
    go_simp
    first | exact hK.out _ _ trivial hS rfl | (have hk := hK.out _ _ trivial hS rfl; revert hk; go_simp)
  case io2x1 =>
    intro k1 w1 hk0 hk1 hb1 hS hd KK hK
    have d0 : x0 = .slice al (lst N rs s N).length cl := hd 0 (by kernel_rfl)
    clear hd
    subst d0
    simp only [Act.put, List.setIfInBounds_toArray, List.set_cons_zero, List.set_cons_succ] at hK
    go_simp
    first | exact hK.out _ _ trivial hS rfl | (have hk := hK.out _ _ trivial hS rfl; revert hk; go_simp)
  case io2x2 =>
    intro k1 w1 hk0 hk1 hb1 hS hd KK hK
    clear hd
    have k0 := hS.c 0 0 rfl rfl
    have k1 := hS.c 0 1 rfl rfl
    have k2 := hS.c 0 2 rfl rfl
    have k3 := hS.c 0 3 rfl rfl
    have k4 := hS.c 0 4 rfl rfl
    simp only [Act.put, List.setIfInBounds_toArray, List.set_cons_zero, List.set_cons_succ] at hK
    go_simp
    first | exact hK.out _ _ trivial hS rfl | (have hk := hK.out _ _ trivial hS rfl; revert hk; go_simp)
  case io2x3 =>
    intro w1 hb1 hS hd KK hK
    have d0 : x0 = .slice al (lst N rs s N).length cl := hd 0 (by kernel_rfl)
    have d1 : x1 = .agg #[.slice al (lst N rs s N).length cl, .int .i64 0, .int .i64 0] := hd 1 (by kernel_rfl)
    clear hd
    subst d0
    subst d1
    have k0 := hS.c 1 0 rfl rfl
    have k1 := hS.c 1 1 rfl rfl
    have k2 := hS.c 1 2 rfl rfl
    have kf0 := hS.f 1 0 rfl (v := .slice none 0 0) rfl
    have kf1 := hS.f 1 1 rfl (v := .int .i64 0) rfl
    have kf2 := hS.f 1 2 rfl (v := .int .i64 0) rfl
    simp only [Act.put, List.setIfInBounds_toArray, List.set_cons_zero, List.set_cons_succ] at hK
    go_simp
    first | exact hK.out undef _ trivial (hS.set 1 rfl (by simp) [.slice al (lst N rs s N).length cl, .int .i64 0, .int .i64 0] rfl) trivial | (have hk := hK.out undef _ trivial (hS.set 1 rfl (by simp) [.slice al (lst N rs s N).length cl, .int .i64 0, .int .i64 0] rfl) trivial; revert hk; go_simp)
  case io2x4 =>
    intro w1 hb1 hS hd KK hK
    have d0 : x0 = .slice al (lst N rs s N).length cl := hd 0 (by kernel_rfl)
    have d1 : x1 = .agg #[.slice al (lst N rs s N).length cl, .int .i64 0, .int .i64 0] := hd 1 (by kernel_rfl)
    have d2 : x2 = .agg #[.slice ag (tur N rs s N).1.length cg, .int .u64 ((tur N rs s N).2.a : Nat), .int .u64 ((tur N rs s N).2.b : Nat), .int .u64 ((tur N rs s N).2.c : Nat), .int .u64 ((tur N rs s N).2.d : Nat)] := hd 2 (by kernel_rfl)
    clear hd
    subst d0
    subst d1
    subst d2
    have k0 := hS.c 2 0 rfl rfl
    have k1 := hS.c 2 1 rfl rfl
    have k2 := hS.c 2 2 rfl rfl
    have k3 := hS.c 2 3 rfl rfl
    have k4 := hS.c 2 4 rfl rfl
    have kf0 := hS.f 2 0 rfl (v := .slice none 0 0) rfl
    have kf1 := hS.f 2 1 rfl (v := .int .u64 0) rfl
    have kf2 := hS.f 2 2 rfl (v := .int .u64 0) rfl
    have kf3 := hS.f 2 3 rfl (v := .int .u64 0) rfl
    have kf4 := hS.f 2 4 rfl (v := .int .u64 0) rfl
    simp only [Act.put, List.setIfInBounds_toArray, List.set_cons_zero, List.set_cons_succ] at hK
    go_simp
    first | exact hK.out undef _ trivial (hS.set 2 rfl (by simp) [.slice ag (tur N rs s N).1.length cg, .int .u64 ((tur N rs s N).2.a : Nat), .int .u64 ((tur N rs s N).2.b : Nat), .int .u64 ((tur N rs s N).2.c : Nat), .int .u64 ((tur N rs s N).2.d : Nat)] rfl) trivial | (have hk := hK.out undef _ trivial (hS.set 2 rfl (by simp) [.slice ag (tur N rs s N).1.length cg, .int .u64 ((tur N rs s N).2.a : Nat), .int .u64 ((tur N rs s N).2.b : Nat), .int .u64 ((tur N rs s N).2.c : Nat), .int .u64 ((tur N rs s N).2.d : Nat)] rfl) trivial; revert hk; go_simp)
  case iend2 =>
    intro w1 hb1 hS hR
    have d0 : x0 = .slice al (lst N rs s N).length cl := hR 0 (by decide)
    have d1 : x1 = .agg #[.slice al (lst N rs s N).length cl, .int .i64 0, .int .i64 0] := hR 1 (by decide)
    have d2 : x2 = .agg #[.slice ag (tur N rs s N).1.length cg, .int .u64 ((tur N rs s N).2.a : Nat), .int .u64 ((tur N rs s N).2.b : Nat), .int .u64 ((tur N rs s N).2.c : Nat), .int .u64 ((tur N rs s N).2.d : Nat)] := hR 2 (by decide)
    clear hR
    subst d0
    subst d1
    subst d2
    try simp only [putAll, Act.put, List.setIfInBounds_toArray, List.set_cons_zero, List.set_cons_succ]
    have FW := Lib.hid (show Fr w.heap.size w w1 [(w.heap.size, [.slice ag (tur N rs s N).1.length cg, .int .u64 ((tur N rs s N).2.a : Nat), .int .u64 ((tur N rs s N).2.b : Nat), .int .u64 ((tur N rs s N).2.c : Nat), .int .u64 ((tur N rs s N).2.d : Nat)]), (w.heap.size + 1, [.slice al (lst N rs s N).length cl, .int .i64 0, .int .i64 0]), (w.heap.size + 1 + 1, [.slice ag (tur N rs s N).1.length cg, .int .u64 ((tur N rs s N).2.a : Nat), .int .u64 ((tur N rs s N).2.b : Nat), .int .u64 ((tur N rs s N).2.c : Nat), .int .u64 ((tur N rs s N).2.d : Nat)])] [(.u64, a2, rs), (.u64, ag, (tur N rs s N).1)] [⟨3, .slice al (lst N rs s N).length cl, (lst N rs s N).length, (lst N rs s N).map (Value.int .i64)⟩] [] from hS)
    clear hS hb1 F5
    go_wp2
    have c1_0 := FW.out.c 1 0 rfl rfl
    have c1_1 := FW.out.c 1 1 rfl rfl
    have c1_2 := FW.out.c 1 2 rfl rfl
    have c2_0 := FW.out.c 2 0 rfl rfl
    have c2_1 := FW.out.c 2 1 rfl rfl
    have c2_2 := FW.out.c 2 2 rfl rfl
    have c2_3 := FW.out.c 2 3 rfl rfl
    have c2_4 := FW.out.c 2 4 rfl rfl
    have hpost : RetStartR hi0 w (lst N rs s N) (tur N rs s N).1 (tur N rs s N).2 (.returned (.tuple #[.agg #[.slice al (lst N rs s N).length cl, .int .i64 0, .int .i64 0], .agg #[.slice ag (tur N rs s N).1.length cg, .int .u64 ((tur N rs s N).2.a : Nat), .int .u64 ((tur N rs s N).2.b : Nat), .int .u64 ((tur N rs s N).2.c : Nat), .int .u64 ((tur N rs s N).2.d : Nat)]])) w1 := ⟨al, cl, ag, cg, rfl, FW.out.rows, Ints.lower (FW.out.l 1 rfl) HIR.out, hcr1, hcr2⟩
    refine bodyPost_ret (v := _) ?_ rfl hpost
    rw [results_cc rfl]
    go_simp

set_option maxRecDepth 100000 in
set_option maxHeartbeats 4000000 in
theorem rnext_over (a a2 : Option Addr) (c c2 : Nat) (xs rs : List Int) (s : St) (A E N size : Nat) (w : World) (hm : mayC xs (A : Int) (E : Int) ((N + 1 : Nat) : Int) = true) (hs : GoodS rs s) (hx : Ints .i64 w w.heap.size a xs) (hi0 : Nat) (hh : hi0 ≤ w.heap.size) (hr0 : Ints .u64 w hi0 a2 rs) (hc : rs.length ≤ c2 ∧ c2 ≤ 9223372036854775807) (h1 : 1 ≤ size) (h2 : size ≤ 4096) (hbd : A = N + 1 ∧ E = 1048576) :
    Calls Try.prog 57 #[.agg #[.slice a xs.length c, .int .i64 (A : Int), .int .i64 (E : Int)], .agg #[.slice a2 rs.length c2, .int .u64 (s.a : Nat), .int .u64 (s.b : Nat), .int .u64 (s.c : Nat), .int .u64 (s.d : Nat)], .int .i64 ((N + 1 : Nat) : Int), .int .i64 (size : Int)] w (RetNextR hi0 w [] [] 0 0 [] St.nil 5) := by
  have hmc := mayC_iff.1 hm
  obtain ⟨_, hn2, hax, _, hA2, _, hE2⟩ := hmc
  have hon := axesB_once.1 hax
  have hxl := hon.len
  have HCP := Lib.hid (fun W (h : Ints .i64 W W.heap.size a xs) => copyCursor_any a c xs (A : Int) (E : Int) W h (by omega))
  have hr := hr0.mono hh
  have HR0 := Lib.hid hr0
  have HSH := Lib.hid (fun W (hw : w.heap.size ≤ W.heap.size) (h : Ints .u64 W hi0 a2 rs) => rshuffle_any a2 c2 rs s N W hs hi0 (Nat.le_trans hh hw) h hc.1 hc.2 (by omega))
  clear hr0
  obtain ⟨m, hmN⟩ : ∃ m, N + 1 = m := ⟨_, rfl⟩
  rw [hmN] at hn2 hA2 hbd hon hxl HSH ⊢
  have hm1 : 1 ≤ m := by omega
  have hm2 : m ≤ 1024 := by omega
  have hA : A ≤ m := by omega
  have hE : E ≤ 1048576 := by omega
  have HXL := Lib.hid hxl
  have HON := Lib.hid hon
  have HMN := Lib.hid hmN
  have HR := Lib.hid hr
  have HX := Lib.hid hx
  have HBD := Lib.hid hbd
  have HCC := Lib.hid hc
  clear hmN hs hr hx hm hax hon hxl hn2 hA2 hE2 hbd hc
  go_enter Try.func57, Try.ntmps57
  have F1 := Lib.hid (((((Fr.start (w := w) (I := [(.i64, a, xs), (.u64, a2, rs)]) (by intro p hp; simp at hp; rcases hp with rfl | rfl; exact HX.out; exact HR.out)).box1 (b := w.heap.size) (by simp) [.slice a xs.length c, .int .i64 (A : Int), .int .i64 (E : Int)] 73).box1 (b := w.heap.size + 1) (by simp) [.slice a2 rs.length c2, .int .u64 (s.a : Nat), .int .u64 (s.b : Nat), .int .u64 (s.c : Nat), .int .u64 (s.d : Nat)] 27).box1 (b := w.heap.size + 1 + 1) (by simp) [.slice none 0 0, .int .i64 0, .int .i64 0] 73).box1 (b := w.heap.size + 1 + 1 + 1) (by simp) [.slice none 0 0, .int .u64 0, .int .u64 0, .int .u64 0, .int .u64 0] 27)
  simp only [List.nil_append, List.cons_append] at F1
  go_upto_region 1 with fail
  obtain ⟨W0, hW0⟩ : ∃ W0, ((((w.alloc (.cells #[.slice a xs.length c, .int .i64 (A : Int), .int .i64 (E : Int)] 73)).alloc (.cells #[.slice a2 rs.length c2, .int .u64 (s.a : Nat), .int .u64 (s.b : Nat), .int .u64 (s.c : Nat), .int .u64 (s.d : Nat)] 27)).alloc (.cells #[.slice none 0 0, .int .i64 0, .int .i64 0] 73)).alloc (.cells #[.slice none 0 0, .int .u64 0, .int .u64 0, .int .u64 0, .int .u64 0] 27)) = W0 := ⟨_, rfl⟩
  rw [hW0] at F1 ⊢
  clear hW0
  have c0_0 := F1.out.c 0 0 rfl rfl
  have c0_1 := F1.out.c 0 1 rfl rfl
  have c0_2 := F1.out.c 0 2 rfl rfl
  go_upto_region 2 with (go_at_call 55; refine (HCP.out _ (F1.out.lw 0 rfl)).mono ?_; rintro e w2 hcu; obtain ⟨ao, co, rfl, hfr⟩ := hcu; have F2 := Lib.hid (F1.out.join hfr); simp only [List.nil_append] at F2; clear hfr c0_0 c0_1 c0_2)
  have hz := (F2.out.bl 3 rfl).2
  obtain ⟨T, hT⟩ : ∃ T, w2.heap.size = T := ⟨_, rfl⟩
  rw [hT] at hz ⊢
  have F3 := Lib.hid (F2.out.box1 (b := T) hT [.slice ao xs.length co, .int .i64 (A : Int), .int .i64 (E : Int)] 73)
  simp only [List.nil_append, List.cons_append] at F3
  obtain ⟨W3, hW3⟩ : ∃ W3, w2.alloc (.cells #[.slice ao xs.length co, .int .i64 (A : Int), .int .i64 (E : Int)] 73) = W3 := ⟨_, rfl⟩
  rw [hW3] at F3 ⊢
  clear hW3 hT F1 F2
  have c4_0 := F3.out.c 4 0 rfl rfl
  have c4_1 := F3.out.c 4 1 rfl rfl
  have c4_2 := F3.out.c 4 2 rfl rfl
  have e1 : ((A : Int) == (m : Int)) = true := by have := HBD.out; simp; omega
  have e2 : ((E : Int) == 1048576) = true := by have := HBD.out; simp; omega
  have c2_0 := F3.out.c 2 0 rfl rfl
  have c2_1 := F3.out.c 2 1 rfl rfl
  have c2_2 := F3.out.c 2 2 rfl rfl
  have c3_0 := F3.out.c 3 0 rfl rfl
  have c3_1 := F3.out.c 3 1 rfl rfl
  have c3_2 := F3.out.c 3 2 rfl rfl
  have c3_3 := F3.out.c 3 3 rfl rfl
  have c3_4 := F3.out.c 3 4 rfl rfl
  have cf2_0 := F3.out.f 2 0 rfl rfl
  have cf2_1 := F3.out.f 2 1 rfl rfl
  have cf2_2 := F3.out.f 2 2 rfl rfl
  have cf3_0 := F3.out.f 3 0 rfl rfl
  have cf3_1 := F3.out.f 3 1 rfl rfl
  have cf3_2 := F3.out.f 3 2 rfl rfl
  have cf3_3 := F3.out.f 3 3 rfl rfl
  have cf3_4 := F3.out.f 3 4 rfl rfl
  go_wp2
  have FZ := (F3.out.set 2 rfl (by simp) [.slice none 0 0, .int .i64 0, .int .i64 0] rfl).set 3 rfl (by simp) [.slice none 0 0, .int .u64 0, .int .u64 0, .int .u64 0, .int .u64 0] rfl
  simp only [setL, Nat.reduceAdd, List.set_cons_zero, List.set_cons_succ] at FZ
  have z2_0 := FZ.c 2 0 rfl rfl
  have z2_1 := FZ.c 2 1 rfl rfl
  have z2_2 := FZ.c 2 2 rfl rfl
  have z3_0 := FZ.c 3 0 rfl rfl
  have z3_1 := FZ.c 3 1 rfl rfl
  have z3_2 := FZ.c 3 2 rfl rfl
  have z3_3 := FZ.c 3 3 rfl rfl
  have z3_4 := FZ.c 3 4 rfl rfl
  refine bodyPost_ret (v := .tuple #[.slice none 0 0, .agg #[.slice none 0 0, .int .i64 0, .int .i64 0], .agg #[.slice none 0 0, .int .u64 0, .int .u64 0, .int .u64 0, .int .u64 0], .int .i64 5]) ?_ rfl ⟨none, 0, none, 0, none, 0, rfl, ((FZ.rows.less (O' := []) (List.Sublist.refl _) (List.Sublist.refl _) (List.nil_sublist _) (List.Sublist.refl _)).addNil _).addNil _, Ints.nil _ _ _ _, Nat.le_refl _, by decide⟩
  rw [results_tcct rfl]
  go_simp

set_option maxRecDepth 100000 in
set_option maxHeartbeats 4000000 in
theorem rnext_good (a a2 : Option Addr) (c c2 : Nat) (xs rs : List Int) (s : St) (A E N size : Nat) (w : World) (hm : mayC xs (A : Int) (E : Int) ((N + 1 : Nat) : Int) = true) (hs : GoodS rs s) (hx : Ints .i64 w w.heap.size a xs) (hi0 : Nat) (hh : hi0 ≤ w.heap.size) (hr0 : Ints .u64 w hi0 a2 rs) (hc : rs.length ≤ c2 ∧ c2 ≤ 9223372036854775807) (h1 : 1 ≤ size) (h2 : size ≤ 4096) (hbd : ¬ (A = N + 1 ∧ E = 1048576)) :
    Calls Try.prog 57 #[.agg #[.slice a xs.length c, .int .i64 (A : Int), .int .i64 (E : Int)], .agg #[.slice a2 rs.length c2, .int .u64 (s.a : Nat), .int .u64 (s.b : Nat), .int .u64 (s.c : Nat), .int .u64 (s.d : Nat)], .int .i64 ((N + 1 : Nat) : Int), .int .i64 (size : Int)] w (RetNextR hi0 w (nxI xs rs s A N size) (nxO xs rs s A N) (nxEnd A N size : Nat) (nxE A E N : Nat) (nxR rs s A N) (nxS rs s A N) 0) := by
  have hmc := mayC_iff.1 hm
  obtain ⟨_, hn2, hax, _, hA2, _, hE2⟩ := hmc
  have hon := axesB_once.1 hax
  have hxl := hon.len
  have HCP := Lib.hid (fun W (h : Ints .i64 W W.heap.size a xs) => copyCursor_any a c xs (A : Int) (E : Int) W h (by omega))
  have hr := hr0.mono hh
  have HR0 := Lib.hid hr0
  have HSH := Lib.hid (fun W (hw : w.heap.size ≤ W.heap.size) (h : Ints .u64 W hi0 a2 rs) => rshuffle_any a2 c2 rs s N W hs hi0 (Nat.le_trans hh hw) h hc.1 hc.2 (by omega))
  clear hr0
  obtain ⟨m, hmN⟩ : ∃ m, N + 1 = m := ⟨_, rfl⟩
  rw [hmN] at hn2 hA2 hbd hon hxl HSH ⊢
  have hm1 : 1 ≤ m := by omega
  have hm2 : m ≤ 1024 := by omega
  have hA : A ≤ m := by omega
  have hE : E ≤ 1048576 := by omega
  have HXL := Lib.hid hxl
  have HON := Lib.hid hon
  have HMN := Lib.hid hmN
  have HR := Lib.hid hr
  have HX := Lib.hid hx
  have HBD := Lib.hid hbd
  have HCC := Lib.hid hc
  clear hmN hs hr hx hm hax hon hxl hn2 hA2 hE2 hbd hc
  go_enter Try.func57, Try.ntmps57
  have F1 := Lib.hid (((((Fr.start (w := w) (I := [(.i64, a, xs), (.u64, a2, rs)]) (by intro p hp; simp at hp; rcases hp with rfl | rfl; exact HX.out; exact HR.out)).box1 (b := w.heap.size) (by simp) [.slice a xs.length c, .int .i64 (A : Int), .int .i64 (E : Int)] 73).box1 (b := w.heap.size + 1) (by simp) [.slice a2 rs.length c2, .int .u64 (s.a : Nat), .int .u64 (s.b : Nat), .int .u64 (s.c : Nat), .int .u64 (s.d : Nat)] 27).box1 (b := w.heap.size + 1 + 1) (by simp) [.slice none 0 0, .int .i64 0, .int .i64 0] 73).box1 (b := w.heap.size + 1 + 1 + 1) (by simp) [.slice none 0 0, .int .u64 0, .int .u64 0, .int .u64 0, .int .u64 0] 27)
  simp only [List.nil_append, List.cons_append] at F1
  go_upto_region 1 with fail
  obtain ⟨W0, hW0⟩ : ∃ W0, ((((w.alloc (.cells #[.slice a xs.length c, .int .i64 (A : Int), .int .i64 (E : Int)] 73)).alloc (.cells #[.slice a2 rs.length c2, .int .u64 (s.a : Nat), .int .u64 (s.b : Nat), .int .u64 (s.c : Nat), .int .u64 (s.d : Nat)] 27)).alloc (.cells #[.slice none 0 0, .int .i64 0, .int .i64 0] 73)).alloc (.cells #[.slice none 0 0, .int .u64 0, .int .u64 0, .int .u64 0, .int .u64 0] 27)) = W0 := ⟨_, rfl⟩
  rw [hW0] at F1 ⊢
  clear hW0
  have c0_0 := F1.out.c 0 0 rfl rfl
  have c0_1 := F1.out.c 0 1 rfl rfl
  have c0_2 := F1.out.c 0 2 rfl rfl
  go_upto_region 2 with (go_at_call 55; refine (HCP.out _ (F1.out.lw 0 rfl)).mono ?_; rintro e w2 hcu; obtain ⟨ao, co, rfl, hfr⟩ := hcu; have F2 := Lib.hid (F1.out.join hfr); simp only [List.nil_append] at F2; clear hfr c0_0 c0_1 c0_2)
  have hz := (F2.out.bl 3 rfl).2
  obtain ⟨T, hT⟩ : ∃ T, w2.heap.size = T := ⟨_, rfl⟩
  rw [hT] at hz ⊢
  have F3 := Lib.hid (F2.out.box1 (b := T) hT [.slice ao xs.length co, .int .i64 (A : Int), .int .i64 (E : Int)] 73)
  simp only [List.nil_append, List.cons_append] at F3
  obtain ⟨W3, hW3⟩ : ∃ W3, w2.alloc (.cells #[.slice ao xs.length co, .int .i64 (A : Int), .int .i64 (E : Int)] 73) = W3 := ⟨_, rfl⟩
  rw [hW3] at F3 ⊢
  clear hW3 hT F1 F2
  have c4_0 := F3.out.c 4 0 rfl rfl
  have c4_1 := F3.out.c 4 1 rfl rfl
  have c4_2 := F3.out.c 4 2 rfl rfl
  go_upto_if 20 with fail
  go_cut [] from 20 to 37 (fun wx => ∃ ax cx ar cr, ((nxR rs s A N).length ≤ cr ∧ cr ≤ 9223372036854775807) ∧ Ints .u64 wx hi0 ar (nxR rs s A N) ∧ Hid (Fr w.heap.size w wx [(w.heap.size, [.slice a xs.length c, .int .i64 (A : Int), .int .i64 (E : Int)]), (w.heap.size + 1, [.slice ar (nxR rs s A N).length cr, .int .u64 ((nxS rs s A N).a : Nat), .int .u64 ((nxS rs s A N).b : Nat), .int .u64 ((nxS rs s A N).c : Nat), .int .u64 ((nxS rs s A N).d : Nat)]), (w.heap.size + 1 + 1, [.slice none 0 0, .int .i64 0, .int .i64 0]), (w.heap.size + 1 + 1 + 1, [.slice none 0 0, .int .u64 0, .int .u64 0, .int .u64 0, .int .u64 0]), (T, [.slice ax (nxO xs rs s A N).length cx, .int .i64 (nxA A N : Nat), .int .i64 (nxE A E N : Nat)])] [(.i64, a, xs), (.u64, a2, rs), (.u64, ar, (nxR rs s A N))] [⟨3, .slice ax (nxO xs rs s A N).length cx, (nxO xs rs s A N).length, (nxO xs rs s A N).map (Value.int .i64)⟩] []))
  case first =>
    by_cases hAm : A = m
    · have e1 : ((A : Int) == (m : Int)) = true := by simp; omega
      have hE5 : ((E : Int) == 1048576) = false := by have := HBD.out; simp; omega
      have HAM := Lib.hid hAm
      clear hAm
      have c1_0 := F3.out.c 1 0 rfl rfl
      have c1_1 := F3.out.c 1 1 rfl rfl
      have c1_2 := F3.out.c 1 2 rfl rfl
      have c1_3 := F3.out.c 1 3 rfl rfl
      have c1_4 := F3.out.c 1 4 rfl rfl
      have cf1_0 := F3.out.f 1 0 rfl rfl
      have cf1_1 := F3.out.f 1 1 rfl rfl
      have cf1_2 := F3.out.f 1 2 rfl rfl
      have cf1_3 := F3.out.f 1 3 rfl rfl
      have cf1_4 := F3.out.f 1 4 rfl rfl
      have cf4_0 := F3.out.f 4 0 rfl rfl
      have cf4_1 := F3.out.f 4 1 rfl rfl
      have cf4_2 := F3.out.f 4 2 rfl rfl
      go_wp2_with (go_at_call 82; refine (HSH.out _ F3.out.hlo (Ints.lower (F3.out.l 1 rfl) HR0.out)).mono ?_; rintro e w5 hsf; obtain ⟨al, cl, ag, cg, rfl, hfr, hIr, hcr1, hcr2⟩ := hsf.fr; have HIR := Lib.hid hIr; have F5 := Lib.hid ((F3.out.join hfr).addI (hIr.mono hh)); simp only [List.cons_append, List.nil_append] at F5; clear hsf hfr hIr c1_0 c1_1 c1_2 c1_3 c1_4 cf1_0 cf1_1 cf1_2 cf1_3 cf1_4 cf4_0 cf4_1 cf4_2 c4_0 c4_1 c4_2; have d1_0 := F5.out.c 1 0 rfl rfl; have d1_1 := F5.out.c 1 1 rfl rfl; have d1_2 := F5.out.c 1 2 rfl rfl; have d1_3 := F5.out.c 1 3 rfl rfl; have d1_4 := F5.out.c 1 4 rfl rfl; have d4_0 := F5.out.c 4 0 rfl rfl; have d4_1 := F5.out.c 4 1 rfl rfl; have d4_2 := F5.out.c 4 2 rfl rfl; have df1_0 := F5.out.f 1 0 rfl rfl; have df1_1 := F5.out.f 1 1 rfl rfl; have df1_2 := F5.out.f 1 2 rfl rfl; have df1_3 := F5.out.f 1 3 rfl rfl; have df1_4 := F5.out.f 1 4 rfl rfl; have df4_0 := F5.out.f 4 0 rfl rfl; have df4_1 := F5.out.f 4 1 rfl rfl; have df4_2 := F5.out.f 4 2 rfl rfl)
      go_meet
      have F7 := ((((F5.out.setC 4 0 rfl (by simp) (.slice al (lst N rs s N).length cl)).set 1 rfl (by simp) [.slice ag (tur N rs s N).1.length cg, .int .u64 ((tur N rs s N).2.a : Nat), .int .u64 ((tur N rs s N).2.b : Nat), .int .u64 ((tur N rs s N).2.c : Nat), .int .u64 ((tur N rs s N).2.d : Nat)] rfl).setC 4 1 rfl (by simp) (.int .i64 0)).setC 4 2 rfl (by simp) (.int .i64 ((E : Int) + 1)))
      have hA2 : A = N + 1 := by have := HAM.out; have := HMN.out; omega
      have eO : nxO xs rs s A N = lst N rs s N := if_pos hA2
      have eA : nxA A N = 0 := if_pos hA2
      have eE : nxE A E N = E + 1 := if_pos hA2
      have eR : nxR rs s A N = (tur N rs s N).1 := if_pos hA2
      have eS : nxS rs s A N = (tur N rs s N).2 := if_pos hA2
      refine ⟨al, cl, ag, cg, ⟨by rw [eR]; exact hcr1, hcr2⟩, by rw [eR]; exact Ints.lower (F7.l 2 rfl) HIR.out, Lib.hid ?_⟩
      rw [eO, eA, eE, eR, eS]
      exact F7.less (List.Sublist.refl _) (List.Sublist.refl _) (by simp) (List.Sublist.refl _)
    · have e1 : ((A : Int) == (m : Int)) = false := by simp; omega
      have HAM := Lib.hid hAm
      clear hAm
      go_wp2
      go_meet
      have hA2 : ¬ A = N + 1 := by have := HAM.out; have := HMN.out; omega
      have eO : nxO xs rs s A N = xs := if_neg hA2
      have eA : nxA A N = A := if_neg hA2
      have eE : nxE A E N = E := if_neg hA2
      have eR : nxR rs s A N = rs := if_neg hA2
      have eS : nxS rs s A N = s := if_neg hA2
      refine ⟨ao, co, a2, c2, by rw [eR]; exact HCC.out, by rw [eR]; exact Ints.lower (F3.out.l 1 rfl) HR0.out, Lib.hid ?_⟩
      rw [eO, eA, eE, eR, eS]
      exact F3.out.addI (F3.out.l 1 rfl)
  case rest =>
    obtain ⟨ax, cx, ar, cr, hcr, hix, FX⟩ := hcut
    have hOX := nx_once (rs := rs) (s := s) (A := A) (N := N) (xs := xs) (by rw [HMN.out]; exact HON.out)
    have hAX := nxA_lt (A := A) (N := N) (by rw [HMN.out]; omega)
    have hEX := nxE_le A E N
    rw [HMN.out] at hOX hAX
    have hXL := hOX.len
    have HWF := Lib.hid (once_wf hOX (by omega))
    obtain ⟨X, hX⟩ : ∃ X, nxO xs rs s A N = X := ⟨_, rfl⟩
    obtain ⟨A1, hA1⟩ : ∃ A1, nxA A N = A1 := ⟨_, rfl⟩
    obtain ⟨E1, hE1⟩ : ∃ E1, nxE A E N = E1 := ⟨_, rfl⟩
    obtain ⟨R1, hR1⟩ : ∃ E1, nxR rs s A N = E1 := ⟨_, rfl⟩
    obtain ⟨S1, hS1⟩ : ∃ E1, nxS rs s A N = E1 := ⟨_, rfl⟩
    rw [hX, hA1, hE1, hR1, hS1] at FX
    rw [hR1] at hcr hix
    have HIX := Lib.hid hix
    clear hix
    rw [hX] at hXL HWF
    rw [hXL] at FX
    rw [hA1] at hAX
    rw [hE1] at hEX
    have HEQ := Lib.hid (And.intro hX (And.intro hA1 (And.intro hE1 (And.intro hR1 hS1))))
    have HXM := Lib.hid hXL
    clear hOX hX hA1 hE1 hR1 hS1 hXL F3 c4_0 c4_1 c4_2
    obtain ⟨a0, co0, he, hsh⟩ := own_shape (FX.out.r 0 rfl)
    simp only [Value.slice.injEq] at he
    obtain ⟨rfl, _, rfl⟩ := he
    obtain ⟨g, rfl, _⟩ := hsh.resolve_left (by simp; omega)
    have hcap : m ≤ cx ∧ cx ≤ 9223372036854775807 := by
      rcases (FX.out.r 0 rfl).2 with ⟨h, _⟩ | ⟨g2, cap, cur, h, _, _, h3, h4, _⟩
      · cases h
      · simp only [Value.slice.injEq] at h; obtain ⟨_, _, rfl⟩ := h; unfold maxLen at h4; exact ⟨h3, by omega⟩
    obtain ⟨hcap1, hcap2⟩ := hcap
    have HCR := Lib.hid hcr
    clear hsh hcr
    have c4_0 := FX.out.c 4 0 rfl rfl
    have c4_1 := FX.out.c 4 1 rfl rfl
    have c4_2 := FX.out.c 4 2 rfl rfl
    have cf4_0 := FX.out.f 4 0 rfl rfl
    have cf4_1 := FX.out.f 4 1 rfl rfl
    have cf4_2 := FX.out.f 4 2 rfl rfl
    have hne : ¬ cx = A1 := by omega
    obtain ⟨En, hEn⟩ : ∃ En, min (A1 + size) m = En := ⟨_, rfl⟩
    have hmin1 : A1 < En := by omega
    have hmin2 : En ≤ m := by omega
    have HSLl : Hid (((X.drop A1).take (En - A1)).length = En - A1) := Lib.hid (by have := HXM.out; simp; omega)
    have hcl := fun W (h : Ints .i64 W W.heap.size (some ⟨g, 0 + A1, none⟩) ((X.drop A1).take (En - A1))) => copyNumbers_any (some ⟨g, 0 + A1, none⟩) (cx - A1) ((X.drop A1).take (En - A1)) W h (by rw [HSLl.out]; omega)
    obtain ⟨SL, hSL⟩ : ∃ SL, ((X.drop A1).take (En - A1)) = SL := ⟨_, rfl⟩
    have HSU := Lib.hid (FX.out.sub 0 (k := .i64) (e := 3) (xs := X) rfl HWF.out A1 (En - A1) (by omega))
    rw [hSL, Nat.zero_add] at HSU
    rw [hSL] at HSLl hcl
    rw [HSLl.out, Nat.zero_add] at hcl
    have HCL := Lib.hid hcl
    have HSE := Lib.hid hSL
    clear hSL hcl
    by_cases hlt : A1 + size < m
    · skip
      have g1 : (m : Int) - (A1 : Int) > (size : Int) := by omega
      have e5 : ∀ [Inhabited Unit], (A1 : Int) + (size : Int) = (En : Int) := by intro _; omega
      have HEE := Lib.hid hEn
      clear hEn hlt
      go_upto_region 13 with (go_at_call 32; (with_reducible refine (HCL.out _ HSU.out).mono ?_); rintro e w9 ⟨v, rfl, hown, hb⟩; obtain ⟨ai, ci, rfl, _⟩ := own_shape hown; have F9 := Lib.hid (FX.out.addO hb hown); simp only [List.cons_append, List.nil_append] at F9; clear hown hb c4_0 c4_1 c4_2 cf4_0 cf4_1 cf4_2; have d4_0 := F9.out.c 4 0 rfl rfl; have d4_1 := F9.out.c 4 1 rfl rfl; have d4_2 := F9.out.c 4 2 rfl rfl; have df4_0 := F9.out.f 4 0 rfl rfl; have df4_1 := F9.out.f 4 1 rfl rfl; have df4_2 := F9.out.f 4 2 rfl rfl)
      have F10 := Lib.hid (F9.out.setC 4 1 rfl (by simp) (.int .i64 (En : Int)))
      simp only [List.set_cons_zero, List.set_cons_succ] at F10
      obtain ⟨W10, hW10⟩ : ∃ W10, w9.setCell ⟨T, 1, none⟩ (.int .i64 (En : Int)) = W10 := ⟨_, rfl⟩
      rw [hW10] at F10 ⊢
      clear hW10 F9 d4_0 d4_1 d4_2 df4_0 df4_1 df4_2
      refine wp_region_inv (w := W10) 7 (fun _ _ => True) (fun k W => Fr w.heap.size w W [(w.heap.size, [.slice a xs.length c, .int .i64 (A : Int), .int .i64 (E : Int)]), (w.heap.size + 1, [.slice ar R1.length cr, .int .u64 (S1.a : Nat), .int .u64 (S1.b : Nat), .int .u64 (S1.c : Nat), .int .u64 (S1.d : Nat)]), (w.heap.size + 1 + 1, if k = 0 then [.slice none 0 0, .int .i64 0, .int .i64 0] else [.slice (some ⟨g, 0, none⟩) m cx, .int .i64 (En : Int), .int .i64 (E1 : Int)]), (w.heap.size + 1 + 1 + 1, if k ≤ 1 then [.slice none 0 0, .int .u64 0, .int .u64 0, .int .u64 0, .int .u64 0] else [.slice ar R1.length cr, .int .u64 (S1.a : Nat), .int .u64 (S1.b : Nat), .int .u64 (S1.c : Nat), .int .u64 (S1.d : Nat)]), (T, [.slice (some ⟨g, 0, none⟩) m cx, .int .i64 (En : Int), .int .i64 (E1 : Int)])] [(.i64, a, xs), (.u64, a2, rs), (.u64, ar, R1)] [⟨3, .slice (some ⟨g, 0, none⟩) m cx, m, X.map (Value.int .i64)⟩, ⟨3, .slice ai SL.length ci, SL.length, SL.map (Value.int .i64)⟩] []) [4, 5] [(fun u _ => u = .slice ai SL.length ci), (fun u _ => u = .agg #[.slice (some ⟨g, 0, none⟩) m cx, .int .i64 (En : Int), .int .i64 (E1 : Int)]), (fun u _ => u = .agg #[.slice ar R1.length cr, .int .u64 (S1.a : Nat), .int .u64 (S1.b : Nat), .int .u64 (S1.c : Nat), .int .u64 (S1.d : Nat)]), (fun u _ => u = .slice ai SL.length ci), (fun _ _ => True), (fun _ _ => True), (fun u _ => u = .int .i64 0)] [some 58, some 59, some 60, some 8, none, none, some 11] (by kernel_rfl) (by kernel_rfl) rfl (by kernel_rfl) (by kernel_rfl) (by decide) (by decide) (fun _ _ => trivial) trivial F10.out.drew (BorneAll.at (.cons (borne_eq _) (.cons (borne_eq _) (.cons (borne_eq _) (.cons (borne_eq _) (.cons (fun _ _ _ _ _ => trivial) (.cons (fun _ _ _ _ _ => trivial) (.cons (borne_eq _) .nil)))))))) (fun vs b hvl hvb => ?_)
      obtain ⟨x0, x1, x2, x3, x4, x5, x6, rfl⟩ : ∃ x0 x1 x2 x3 x4 x5 x6, vs = [x0, x1, x2, x3, x4, x5, x6] := lst7 hvl
      clear hvl
      simp only [putAll, Act.put, List.setIfInBounds_toArray, List.set_cons_zero, List.set_cons_succ] at hvb
      subst hvb
      refine ⟨(.snoc (.snoc (.snoc (.snoc (.snoc (.snoc (.snoc .zero (InvOb.intro (d := (some 58)) (r := fun u _ => u = .slice ai SL.length ci) 0 0 rfl rfl rfl (by kernel_rfl) (by kernel_rfl) rfl ?io13ax0)) (InvOb.intro (d := (some 59)) (r := fun u _ => u = .agg #[.slice (some ⟨g, 0, none⟩) m cx, .int .i64 (En : Int), .int .i64 (E1 : Int)]) 0 0 rfl rfl rfl (by kernel_rfl) (by kernel_rfl) rfl ?io13ax1)) (InvOb.intro (d := (some 60)) (r := fun u _ => u = .agg #[.slice ar R1.length cr, .int .u64 (S1.a : Nat), .int .u64 (S1.b : Nat), .int .u64 (S1.c : Nat), .int .u64 (S1.d : Nat)]) 0 1 rfl rfl rfl (by kernel_rfl) (by kernel_rfl) rfl ?io13ax2)) (InvOb.intro (d := (some 8)) (r := fun u _ => u = .slice ai SL.length ci) 0 0 rfl rfl rfl (by kernel_rfl) (by kernel_rfl) rfl ?io13ax3)) (InvOb.put (d := none) (r := fun _ _ => True) 0 rfl rfl rfl (by kernel_rfl) (by kernel_rfl) rfl ?io13ax4)) (InvOb.put (d := none) (r := fun _ _ => True) 1 rfl rfl rfl (by kernel_rfl) (by kernel_rfl) rfl ?io13ax5)) (InvOb.intro (d := (some 11)) (r := fun u _ => u = .int .i64 0) 2 2 rfl rfl rfl (by kernel_rfl) (by kernel_rfl) rfl ?io13ax6)), ?iend13a⟩
      case io13ax0 =>
        intro k1 w1 hk0 hk1 hb1 hS hd KK hK
        clear hd
        simp only [Act.put, List.setIfInBounds_toArray, List.set_cons_zero, List.set_cons_succ] at hK
        go_simp
        first | exact hK.out _ _ trivial hS rfl | (have hk := hK.out _ _ trivial hS rfl; revert hk; go_simp)
      case io13ax1 =>
        intro k1 w1 hk0 hk1 hb1 hS hd KK hK
        clear hd
        have k0 := hS.c 4 0 rfl rfl
        have k1 := hS.c 4 1 rfl rfl
        have k2 := hS.c 4 2 rfl rfl
        simp only [Act.put, List.setIfInBounds_toArray, List.set_cons_zero, List.set_cons_succ] at hK
        go_simp
        first | exact hK.out _ _ trivial hS rfl | (have hk := hK.out _ _ trivial hS rfl; revert hk; go_simp)
      case io13ax2 =>
        intro k1 w1 hk0 hk1 hb1 hS hd KK hK
        clear hd
        have k0 := hS.c 1 0 rfl rfl
        have k1 := hS.c 1 1 rfl rfl
        have k2 := hS.c 1 2 rfl rfl
        have k3 := hS.c 1 3 rfl rfl
        have k4 := hS.c 1 4 rfl rfl
        simp only [Act.put, List.setIfInBounds_toArray, List.set_cons_zero, List.set_cons_succ] at hK
        go_simp
        first | exact hK.out _ _ trivial hS rfl | (have hk := hK.out _ _ trivial hS rfl; revert hk; go_simp)
      case io13ax3 =>
        intro k1 w1 hk0 hk1 hb1 hS hd KK hK
        have d0 : x0 = .slice ai SL.length ci := hd 0 (by kernel_rfl)
        clear hd
        subst d0
        simp only [Act.put, List.setIfInBounds_toArray, List.set_cons_zero, List.set_cons_succ] at hK
        go_simp
        first | exact hK.out _ _ trivial hS rfl | (have hk := hK.out _ _ trivial hS rfl; revert hk; go_simp)
      case io13ax4 =>
        intro w1 hb1 hS hd KK hK
        have d0 : x0 = .slice ai SL.length ci := hd 0 (by kernel_rfl)
        have d1 : x1 = .agg #[.slice (some ⟨g, 0, none⟩) m cx, .int .i64 (En : Int), .int .i64 (E1 : Int)] := hd 1 (by kernel_rfl)
        have d3 : x3 = .slice ai SL.length ci := hd 3 (by kernel_rfl)
        clear hd
        subst d0
        subst d1
        subst d3
        have k0 := hS.c 2 0 rfl rfl
        have k1 := hS.c 2 1 rfl rfl
        have k2 := hS.c 2 2 rfl rfl
        have kf0 := hS.f 2 0 rfl (v := .slice none 0 0) rfl
        have kf1 := hS.f 2 1 rfl (v := .int .i64 0) rfl
        have kf2 := hS.f 2 2 rfl (v := .int .i64 0) rfl
        simp only [Act.put, List.setIfInBounds_toArray, List.set_cons_zero, List.set_cons_succ] at hK
        go_simp
        first | exact hK.out undef _ trivial (hS.set 2 rfl (by simp) [.slice (some ⟨g, 0, none⟩) m cx, .int .i64 (En : Int), .int .i64 (E1 : Int)] rfl) trivial | (have hk := hK.out undef _ trivial (hS.set 2 rfl (by simp) [.slice (some ⟨g, 0, none⟩) m cx, .int .i64 (En : Int), .int .i64 (E1 : Int)] rfl) trivial; revert hk; go_simp)
      case io13ax5 =>
        intro w1 hb1 hS hd KK hK
        have d0 : x0 = .slice ai SL.length ci := hd 0 (by kernel_rfl)
        have d1 : x1 = .agg #[.slice (some ⟨g, 0, none⟩) m cx, .int .i64 (En : Int), .int .i64 (E1 : Int)] := hd 1 (by kernel_rfl)
        have d2 : x2 = .agg #[.slice ar R1.length cr, .int .u64 (S1.a : Nat), .int .u64 (S1.b : Nat), .int .u64 (S1.c : Nat), .int .u64 (S1.d : Nat)] := hd 2 (by kernel_rfl)
        have d3 : x3 = .slice ai SL.length ci := hd 3 (by kernel_rfl)
        clear hd
        subst d0
        subst d1
        subst d2
        subst d3
        have k0 := hS.c 3 0 rfl rfl
        have k1 := hS.c 3 1 rfl rfl
        have k2 := hS.c 3 2 rfl rfl
        have k3 := hS.c 3 3 rfl rfl
        have k4 := hS.c 3 4 rfl rfl
        have kf0 := hS.f 3 0 rfl (v := .slice none 0 0) rfl
        have kf1 := hS.f 3 1 rfl (v := .int .u64 0) rfl
        have kf2 := hS.f 3 2 rfl (v := .int .u64 0) rfl
        have kf3 := hS.f 3 3 rfl (v := .int .u64 0) rfl
        have kf4 := hS.f 3 4 rfl (v := .int .u64 0) rfl
        simp only [Act.put, List.setIfInBounds_toArray, List.set_cons_zero, List.set_cons_succ] at hK
        go_simp
        first | exact hK.out undef _ trivial (hS.set 3 rfl (by simp) [.slice ar R1.length cr, .int .u64 (S1.a : Nat), .int .u64 (S1.b : Nat), .int .u64 (S1.c : Nat), .int .u64 (S1.d : Nat)] rfl) trivial | (have hk := hK.out undef _ trivial (hS.set 3 rfl (by simp) [.slice ar R1.length cr, .int .u64 (S1.a : Nat), .int .u64 (S1.b : Nat), .int .u64 (S1.c : Nat), .int .u64 (S1.d : Nat)] rfl) trivial; revert hk; go_simp)
      case io13ax6 =>
        intro k1 w1 hk0 hk1 hb1 hS hd KK hK
        have d0 : x0 = .slice ai SL.length ci := hd 0 (by kernel_rfl)
        have d1 : x1 = .agg #[.slice (some ⟨g, 0, none⟩) m cx, .int .i64 (En : Int), .int .i64 (E1 : Int)] := hd 1 (by kernel_rfl)
        have d2 : x2 = .agg #[.slice ar R1.length cr, .int .u64 (S1.a : Nat), .int .u64 (S1.b : Nat), .int .u64 (S1.c : Nat), .int .u64 (S1.d : Nat)] := hd 2 (by kernel_rfl)
        have d3 : x3 = .slice ai SL.length ci := hd 3 (by kernel_rfl)
        clear hd
        subst d0
        subst d1
        subst d2
        subst d3
        simp only [Act.put, List.setIfInBounds_toArray, List.set_cons_zero, List.set_cons_succ] at hK
        go_simp
        first | exact hK.out _ _ trivial hS rfl | (have hk := hK.out _ _ trivial hS rfl; revert hk; go_simp)
      case iend13a =>
        intro w1 hb1 hS hR
        have d0 : x0 = .slice ai SL.length ci := hR 0 (by decide)
        have d1 : x1 = .agg #[.slice (some ⟨g, 0, none⟩) m cx, .int .i64 (En : Int), .int .i64 (E1 : Int)] := hR 1 (by decide)
        have d2 : x2 = .agg #[.slice ar R1.length cr, .int .u64 (S1.a : Nat), .int .u64 (S1.b : Nat), .int .u64 (S1.c : Nat), .int .u64 (S1.d : Nat)] := hR 2 (by decide)
        have d3 : x3 = .slice ai SL.length ci := hR 3 (by decide)
        have d6 : x6 = .int .i64 0 := hR 6 (by decide)
        clear hR
        subst d0
        subst d1
        subst d2
        subst d3
        subst d6
        try simp only [putAll, Act.put, List.setIfInBounds_toArray, List.set_cons_zero, List.set_cons_succ]
        have FW := Lib.hid (show Fr w.heap.size w w1 [(w.heap.size, [.slice a xs.length c, .int .i64 (A : Int), .int .i64 (E : Int)]), (w.heap.size + 1, [.slice ar R1.length cr, .int .u64 (S1.a : Nat), .int .u64 (S1.b : Nat), .int .u64 (S1.c : Nat), .int .u64 (S1.d : Nat)]), (w.heap.size + 1 + 1, [.slice (some ⟨g, 0, none⟩) m cx, .int .i64 (En : Int), .int .i64 (E1 : Int)]), (w.heap.size + 1 + 1 + 1, [.slice ar R1.length cr, .int .u64 (S1.a : Nat), .int .u64 (S1.b : Nat), .int .u64 (S1.c : Nat), .int .u64 (S1.d : Nat)]), (T, [.slice (some ⟨g, 0, none⟩) m cx, .int .i64 (En : Int), .int .i64 (E1 : Int)])] [(.i64, a, xs), (.u64, a2, rs), (.u64, ar, R1)] [⟨3, .slice (some ⟨g, 0, none⟩) m cx, m, X.map (Value.int .i64)⟩, ⟨3, .slice ai SL.length ci, SL.length, SL.map (Value.int .i64)⟩] [] from hS)
        clear hS hb1 F10
        go_wp2
        have c2_0 := FW.out.c 2 0 rfl rfl
        have c2_1 := FW.out.c 2 1 rfl rfl
        have c2_2 := FW.out.c 2 2 rfl rfl
        have c3_0 := FW.out.c 3 0 rfl rfl
        have c3_1 := FW.out.c 3 1 rfl rfl
        have c3_2 := FW.out.c 3 2 rfl rfl
        have c3_3 := FW.out.c 3 3 rfl rfl
        have c3_4 := FW.out.c 3 4 rfl rfl
        obtain ⟨hq1, hq2, hq3, hq4, hq5⟩ := HEQ.out
        have hpost : RetNextR hi0 w SL X (En : Int) (E1 : Int) R1 S1 0 (.returned (.tuple #[.slice ai SL.length ci, .agg #[.slice (some ⟨g, 0, none⟩) m cx, .int .i64 (En : Int), .int .i64 (E1 : Int)], .agg #[.slice ar R1.length cr, .int .u64 (S1.a : Nat), .int .u64 (S1.b : Nat), .int .u64 (S1.c : Nat), .int .u64 (S1.d : Nat)], .int .i64 0])) w1 := ⟨ai, ci, some ⟨g, 0, none⟩, cx, ar, cr, by rw [HXM.out], by rw [HXM.out]; exact FW.out.rows, Ints.lower (FW.out.l 2 rfl) HIX.out, HCR.out⟩
        refine bodyPost_ret (v := .tuple #[.slice ai SL.length ci, .agg #[.slice (some ⟨g, 0, none⟩) m cx, .int .i64 (En : Int), .int .i64 (E1 : Int)], .agg #[.slice ar R1.length cr, .int .u64 (S1.a : Nat), .int .u64 (S1.b : Nat), .int .u64 (S1.c : Nat), .int .u64 (S1.d : Nat)], .int .i64 0]) ?_ rfl (show RetNextR hi0 w (nxI xs rs s A N size) (nxO xs rs s A N) (nxEnd A N size : Nat) (nxE A E N : Nat) (nxR rs s A N) (nxS rs s A N) 0 _ _ from by
        have e1 : nxEnd A N size = En := by unfold nxEnd; rw [hq2, HMN.out, HEE.out]
        have e2 : nxI xs rs s A N size = SL := by unfold nxI; rw [hq1, e1, hq2, HSE.out]
        rw [e1, e2, hq1, hq3, hq4, hq5]
        exact hpost)
        rw [results_tcct rfl]
        go_simp
    · skip
      have g1 : (m : Int) - (A1 : Int) ≤ (size : Int) := by omega
      obtain rfl : En = m := by omega
      have HEE := Lib.hid hEn
      clear hEn hlt
      go_upto_region 13 with (go_at_call 32; (with_reducible refine (HCL.out _ HSU.out).mono ?_); rintro e w9 ⟨v, rfl, hown, hb⟩; obtain ⟨ai, ci, rfl, _⟩ := own_shape hown; have F9 := Lib.hid (FX.out.addO hb hown); simp only [List.cons_append, List.nil_append] at F9; clear hown hb c4_0 c4_1 c4_2 cf4_0 cf4_1 cf4_2; have d4_0 := F9.out.c 4 0 rfl rfl; have d4_1 := F9.out.c 4 1 rfl rfl; have d4_2 := F9.out.c 4 2 rfl rfl; have df4_0 := F9.out.f 4 0 rfl rfl; have df4_1 := F9.out.f 4 1 rfl rfl; have df4_2 := F9.out.f 4 2 rfl rfl)
      have F10 := Lib.hid (F9.out.setC 4 1 rfl (by simp) (.int .i64 (En : Int)))
      simp only [List.set_cons_zero, List.set_cons_succ] at F10
      obtain ⟨W10, hW10⟩ : ∃ W10, w9.setCell ⟨T, 1, none⟩ (.int .i64 (En : Int)) = W10 := ⟨_, rfl⟩
      rw [hW10] at F10 ⊢
      clear hW10 F9 d4_0 d4_1 d4_2 df4_0 df4_1 df4_2
      refine wp_region_inv (w := W10) 7 (fun _ _ => True) (fun k W => Fr w.heap.size w W [(w.heap.size, [.slice a xs.length c, .int .i64 (A : Int), .int .i64 (E : Int)]), (w.heap.size + 1, [.slice ar R1.length cr, .int .u64 (S1.a : Nat), .int .u64 (S1.b : Nat), .int .u64 (S1.c : Nat), .int .u64 (S1.d : Nat)]), (w.heap.size + 1 + 1, if k = 0 then [.slice none 0 0, .int .i64 0, .int .i64 0] else [.slice (some ⟨g, 0, none⟩) En cx, .int .i64 (En : Int), .int .i64 (E1 : Int)]), (w.heap.size + 1 + 1 + 1, if k ≤ 1 then [.slice none 0 0, .int .u64 0, .int .u64 0, .int .u64 0, .int .u64 0] else [.slice ar R1.length cr, .int .u64 (S1.a : Nat), .int .u64 (S1.b : Nat), .int .u64 (S1.c : Nat), .int .u64 (S1.d : Nat)]), (T, [.slice (some ⟨g, 0, none⟩) En cx, .int .i64 (En : Int), .int .i64 (E1 : Int)])] [(.i64, a, xs), (.u64, a2, rs), (.u64, ar, R1)] [⟨3, .slice (some ⟨g, 0, none⟩) En cx, En, X.map (Value.int .i64)⟩, ⟨3, .slice ai SL.length ci, SL.length, SL.map (Value.int .i64)⟩] []) [4, 5] [(fun u _ => u = .slice ai SL.length ci), (fun u _ => u = .agg #[.slice (some ⟨g, 0, none⟩) En cx, .int .i64 (En : Int), .int .i64 (E1 : Int)]), (fun u _ => u = .agg #[.slice ar R1.length cr, .int .u64 (S1.a : Nat), .int .u64 (S1.b : Nat), .int .u64 (S1.c : Nat), .int .u64 (S1.d : Nat)]), (fun u _ => u = .slice ai SL.length ci), (fun _ _ => True), (fun _ _ => True), (fun u _ => u = .int .i64 0)] [some 58, some 59, some 60, some 8, none, none, some 11] (by kernel_rfl) (by kernel_rfl) rfl (by kernel_rfl) (by kernel_rfl) (by decide) (by decide) (fun _ _ => trivial) trivial F10.out.drew (BorneAll.at (.cons (borne_eq _) (.cons (borne_eq _) (.cons (borne_eq _) (.cons (borne_eq _) (.cons (fun _ _ _ _ _ => trivial) (.cons (fun _ _ _ _ _ => trivial) (.cons (borne_eq _) .nil)))))))) (fun vs b hvl hvb => ?_)
      obtain ⟨x0, x1, x2, x3, x4, x5, x6, rfl⟩ : ∃ x0 x1 x2 x3 x4 x5 x6, vs = [x0, x1, x2, x3, x4, x5, x6] := lst7 hvl
      clear hvl
      simp only [putAll, Act.put, List.setIfInBounds_toArray, List.set_cons_zero, List.set_cons_succ] at hvb
      subst hvb
      refine ⟨(.snoc (.snoc (.snoc (.snoc (.snoc (.snoc (.snoc .zero (InvOb.intro (d := (some 58)) (r := fun u _ => u = .slice ai SL.length ci) 0 0 rfl rfl rfl (by kernel_rfl) (by kernel_rfl) rfl ?io13bx0)) (InvOb.intro (d := (some 59)) (r := fun u _ => u = .agg #[.slice (some ⟨g, 0, none⟩) En cx, .int .i64 (En : Int), .int .i64 (E1 : Int)]) 0 0 rfl rfl rfl (by kernel_rfl) (by kernel_rfl) rfl ?io13bx1)) (InvOb.intro (d := (some 60)) (r := fun u _ => u = .agg #[.slice ar R1.length cr, .int .u64 (S1.a : Nat), .int .u64 (S1.b : Nat), .int .u64 (S1.c : Nat), .int .u64 (S1.d : Nat)]) 0 1 rfl rfl rfl (by kernel_rfl) (by kernel_rfl) rfl ?io13bx2)) (InvOb.intro (d := (some 8)) (r := fun u _ => u = .slice ai SL.length ci) 0 0 rfl rfl rfl (by kernel_rfl) (by kernel_rfl) rfl ?io13bx3)) (InvOb.put (d := none) (r := fun _ _ => True) 0 rfl rfl rfl (by kernel_rfl) (by kernel_rfl) rfl ?io13bx4)) (InvOb.put (d := none) (r := fun _ _ => True) 1 rfl rfl rfl (by kernel_rfl) (by kernel_rfl) rfl ?io13bx5)) (InvOb.intro (d := (some 11)) (r := fun u _ => u = .int .i64 0) 2 2 rfl rfl rfl (by kernel_rfl) (by kernel_rfl) rfl ?io13bx6)), ?iend13b⟩
      case io13bx0 =>
        intro k1 w1 hk0 hk1 hb1 hS hd KK hK
        clear hd
        simp only [Act.put, List.setIfInBounds_toArray, List.set_cons_zero, List.set_cons_succ] at hK
        go_simp
        first | exact hK.out _ _ trivial hS rfl | (have hk := hK.out _ _ trivial hS rfl; revert hk; go_simp)
      case io13bx1 =>
        intro k1 w1 hk0 hk1 hb1 hS hd KK hK
        clear hd
        have k0 := hS.c 4 0 rfl rfl
        have k1 := hS.c 4 1 rfl rfl
        have k2 := hS.c 4 2 rfl rfl
        simp only [Act.put, List.setIfInBounds_toArray, List.set_cons_zero, List.set_cons_succ] at hK
        go_simp
        first | exact hK.out _ _ trivial hS rfl | (have hk := hK.out _ _ trivial hS rfl; revert hk; go_simp)
      case io13bx2 =>
        intro k1 w1 hk0 hk1 hb1 hS hd KK hK
        clear hd
        have k0 := hS.c 1 0 rfl rfl
        have k1 := hS.c 1 1 rfl rfl
        have k2 := hS.c 1 2 rfl rfl
        have k3 := hS.c 1 3 rfl rfl
        have k4 := hS.c 1 4 rfl rfl
        simp only [Act.put, List.setIfInBounds_toArray, List.set_cons_zero, List.set_cons_succ] at hK
        go_simp
        first | exact hK.out _ _ trivial hS rfl | (have hk := hK.out _ _ trivial hS rfl; revert hk; go_simp)
      case io13bx3 =>
        intro k1 w1 hk0 hk1 hb1 hS hd KK hK
        have d0 : x0 = .slice ai SL.length ci := hd 0 (by kernel_rfl)
        clear hd
        subst d0
        simp only [Act.put, List.setIfInBounds_toArray, List.set_cons_zero, List.set_cons_succ] at hK
        go_simp
        first | exact hK.out _ _ trivial hS rfl | (have hk := hK.out _ _ trivial hS rfl; revert hk; go_simp)
      case io13bx4 =>
        intro w1 hb1 hS hd KK hK
        have d0 : x0 = .slice ai SL.length ci := hd 0 (by kernel_rfl)
        have d1 : x1 = .agg #[.slice (some ⟨g, 0, none⟩) En cx, .int .i64 (En : Int), .int .i64 (E1 : Int)] := hd 1 (by kernel_rfl)
        have d3 : x3 = .slice ai SL.length ci := hd 3 (by kernel_rfl)
        clear hd
        subst d0
        subst d1
        subst d3
        have k0 := hS.c 2 0 rfl rfl
        have k1 := hS.c 2 1 rfl rfl
        have k2 := hS.c 2 2 rfl rfl
        have kf0 := hS.f 2 0 rfl (v := .slice none 0 0) rfl
        have kf1 := hS.f 2 1 rfl (v := .int .i64 0) rfl
        have kf2 := hS.f 2 2 rfl (v := .int .i64 0) rfl
        simp only [Act.put, List.setIfInBounds_toArray, List.set_cons_zero, List.set_cons_succ] at hK
        go_simp
        first | exact hK.out undef _ trivial (hS.set 2 rfl (by simp) [.slice (some ⟨g, 0, none⟩) En cx, .int .i64 (En : Int), .int .i64 (E1 : Int)] rfl) trivial | (have hk := hK.out undef _ trivial (hS.set 2 rfl (by simp) [.slice (some ⟨g, 0, none⟩) En cx, .int .i64 (En : Int), .int .i64 (E1 : Int)] rfl) trivial; revert hk; go_simp)
      case io13bx5 =>
        intro w1 hb1 hS hd KK hK
        have d0 : x0 = .slice ai SL.length ci := hd 0 (by kernel_rfl)
        have d1 : x1 = .agg #[.slice (some ⟨g, 0, none⟩) En cx, .int .i64 (En : Int), .int .i64 (E1 : Int)] := hd 1 (by kernel_rfl)
        have d2 : x2 = .agg #[.slice ar R1.length cr, .int .u64 (S1.a : Nat), .int .u64 (S1.b : Nat), .int .u64 (S1.c : Nat), .int .u64 (S1.d : Nat)] := hd 2 (by kernel_rfl)
        have d3 : x3 = .slice ai SL.length ci := hd 3 (by kernel_rfl)
        clear hd
        subst d0
        subst d1
        subst d2
        subst d3
        have k0 := hS.c 3 0 rfl rfl
        have k1 := hS.c 3 1 rfl rfl
        have k2 := hS.c 3 2 rfl rfl
        have k3 := hS.c 3 3 rfl rfl
        have k4 := hS.c 3 4 rfl rfl
        have kf0 := hS.f 3 0 rfl (v := .slice none 0 0) rfl
        have kf1 := hS.f 3 1 rfl (v := .int .u64 0) rfl
        have kf2 := hS.f 3 2 rfl (v := .int .u64 0) rfl
        have kf3 := hS.f 3 3 rfl (v := .int .u64 0) rfl
        have kf4 := hS.f 3 4 rfl (v := .int .u64 0) rfl
        simp only [Act.put, List.setIfInBounds_toArray, List.set_cons_zero, List.set_cons_succ] at hK
        go_simp
        first | exact hK.out undef _ trivial (hS.set 3 rfl (by simp) [.slice ar R1.length cr, .int .u64 (S1.a : Nat), .int .u64 (S1.b : Nat), .int .u64 (S1.c : Nat), .int .u64 (S1.d : Nat)] rfl) trivial | (have hk := hK.out undef _ trivial (hS.set 3 rfl (by simp) [.slice ar R1.length cr, .int .u64 (S1.a : Nat), .int .u64 (S1.b : Nat), .int .u64 (S1.c : Nat), .int .u64 (S1.d : Nat)] rfl) trivial; revert hk; go_simp)
      case io13bx6 =>
        intro k1 w1 hk0 hk1 hb1 hS hd KK hK
        have d0 : x0 = .slice ai SL.length ci := hd 0 (by kernel_rfl)
        have d1 : x1 = .agg #[.slice (some ⟨g, 0, none⟩) En cx, .int .i64 (En : Int), .int .i64 (E1 : Int)] := hd 1 (by kernel_rfl)
        have d2 : x2 = .agg #[.slice ar R1.length cr, .int .u64 (S1.a : Nat), .int .u64 (S1.b : Nat), .int .u64 (S1.c : Nat), .int .u64 (S1.d : Nat)] := hd 2 (by kernel_rfl)
        have d3 : x3 = .slice ai SL.length ci := hd 3 (by kernel_rfl)
        clear hd
        subst d0
        subst d1
        subst d2
        subst d3
        simp only [Act.put, List.setIfInBounds_toArray, List.set_cons_zero, List.set_cons_succ] at hK
        go_simp
        first | exact hK.out _ _ trivial hS rfl | (have hk := hK.out _ _ trivial hS rfl; revert hk; go_simp)
      case iend13b =>
        intro w1 hb1 hS hR
        have d0 : x0 = .slice ai SL.length ci := hR 0 (by decide)
        have d1 : x1 = .agg #[.slice (some ⟨g, 0, none⟩) En cx, .int .i64 (En : Int), .int .i64 (E1 : Int)] := hR 1 (by decide)
        have d2 : x2 = .agg #[.slice ar R1.length cr, .int .u64 (S1.a : Nat), .int .u64 (S1.b : Nat), .int .u64 (S1.c : Nat), .int .u64 (S1.d : Nat)] := hR 2 (by decide)
        have d3 : x3 = .slice ai SL.length ci := hR 3 (by decide)
        have d6 : x6 = .int .i64 0 := hR 6 (by decide)
        clear hR
        subst d0
        subst d1
        subst d2
        subst d3
        subst d6
        try simp only [putAll, Act.put, List.setIfInBounds_toArray, List.set_cons_zero, List.set_cons_succ]
        have FW := Lib.hid (show Fr w.heap.size w w1 [(w.heap.size, [.slice a xs.length c, .int .i64 (A : Int), .int .i64 (E : Int)]), (w.heap.size + 1, [.slice ar R1.length cr, .int .u64 (S1.a : Nat), .int .u64 (S1.b : Nat), .int .u64 (S1.c : Nat), .int .u64 (S1.d : Nat)]), (w.heap.size + 1 + 1, [.slice (some ⟨g, 0, none⟩) En cx, .int .i64 (En : Int), .int .i64 (E1 : Int)]), (w.heap.size + 1 + 1 + 1, [.slice ar R1.length cr, .int .u64 (S1.a : Nat), .int .u64 (S1.b : Nat), .int .u64 (S1.c : Nat), .int .u64 (S1.d : Nat)]), (T, [.slice (some ⟨g, 0, none⟩) En cx, .int .i64 (En : Int), .int .i64 (E1 : Int)])] [(.i64, a, xs), (.u64, a2, rs), (.u64, ar, R1)] [⟨3, .slice (some ⟨g, 0, none⟩) En cx, En, X.map (Value.int .i64)⟩, ⟨3, .slice ai SL.length ci, SL.length, SL.map (Value.int .i64)⟩] [] from hS)
        clear hS hb1 F10
        go_wp2
        have c2_0 := FW.out.c 2 0 rfl rfl
        have c2_1 := FW.out.c 2 1 rfl rfl
        have c2_2 := FW.out.c 2 2 rfl rfl
        have c3_0 := FW.out.c 3 0 rfl rfl
        have c3_1 := FW.out.c 3 1 rfl rfl
        have c3_2 := FW.out.c 3 2 rfl rfl
        have c3_3 := FW.out.c 3 3 rfl rfl
        have c3_4 := FW.out.c 3 4 rfl rfl
        obtain ⟨hq1, hq2, hq3, hq4, hq5⟩ := HEQ.out
        have hpost : RetNextR hi0 w SL X (En : Int) (E1 : Int) R1 S1 0 (.returned (.tuple #[.slice ai SL.length ci, .agg #[.slice (some ⟨g, 0, none⟩) En cx, .int .i64 (En : Int), .int .i64 (E1 : Int)], .agg #[.slice ar R1.length cr, .int .u64 (S1.a : Nat), .int .u64 (S1.b : Nat), .int .u64 (S1.c : Nat), .int .u64 (S1.d : Nat)], .int .i64 0])) w1 := ⟨ai, ci, some ⟨g, 0, none⟩, cx, ar, cr, by rw [HXM.out], by rw [HXM.out]; exact FW.out.rows, Ints.lower (FW.out.l 2 rfl) HIX.out, HCR.out⟩
        refine bodyPost_ret (v := .tuple #[.slice ai SL.length ci, .agg #[.slice (some ⟨g, 0, none⟩) En cx, .int .i64 (En : Int), .int .i64 (E1 : Int)], .agg #[.slice ar R1.length cr, .int .u64 (S1.a : Nat), .int .u64 (S1.b : Nat), .int .u64 (S1.c : Nat), .int .u64 (S1.d : Nat)], .int .i64 0]) ?_ rfl (show RetNextR hi0 w (nxI xs rs s A N size) (nxO xs rs s A N) (nxEnd A N size : Nat) (nxE A E N : Nat) (nxR rs s A N) (nxS rs s A N) 0 _ _ from by
        have e1 : nxEnd A N size = En := by unfold nxEnd; rw [hq2, HMN.out, HEE.out]
        have e2 : nxI xs rs s A N size = SL := by unfold nxI; rw [hq1, e1, hq2, HSE.out]
        rw [e1, e2, hq1, hq3, hq4, hq5]
        exact hpost)
        rw [results_tcct rfl]
        go_simp
end Go.Proofs.Ytiejkdnkdmanmaa
