/- Walks: the reference's rows. -/
import Derived.Test.YtimjhjacinchjaaGreatERows2
import Derived.Test.YtimjhjacinchjaaGreatFrJ
import Derived.Test.YtimjhjacinchjaaGreatPartsL
import Derived.Deep.CutRange
import Derived.Deep.CutBlock
import Derived.Deep.RegionWith
set_option linter.unusedVariables false
set_option linter.unusedSimpArgs false
namespace Go.Proofs.YtimjhjacinchjaaGreat
open Go.RowKit Go.Rt
theorem lstC {α : Type} {n : Nat} {l : List α} (h : l.length = n + 1) : ∃ x t, l = x :: t ∧ t.length = n := by
  cases l with
  | nil => cases h
  | cons x t => exact ⟨x, t, rfl, Nat.succ.inj h⟩
theorem lst25 {α : Type} {l0 : List α} (h0 : l0.length = 25) : ∃ x0 x1 x2 x3 x4 x5 x6 x7 x8 x9 x10 x11 x12 x13 x14 x15 x16 x17 x18 x19 x20 x21 x22 x23 x24, l0 = [x0, x1, x2, x3, x4, x5, x6, x7, x8, x9, x10, x11, x12, x13, x14, x15, x16, x17, x18, x19, x20, x21, x22, x23, x24] := by
  obtain ⟨x0, l1, rfl, h1⟩ := lstC h0
  obtain ⟨x1, l2, rfl, h2⟩ := lstC h1
  obtain ⟨x2, l3, rfl, h3⟩ := lstC h2
  obtain ⟨x3, l4, rfl, h4⟩ := lstC h3
  obtain ⟨x4, l5, rfl, h5⟩ := lstC h4
  obtain ⟨x5, l6, rfl, h6⟩ := lstC h5
  obtain ⟨x6, l7, rfl, h7⟩ := lstC h6
  obtain ⟨x7, l8, rfl, h8⟩ := lstC h7
  obtain ⟨x8, l9, rfl, h9⟩ := lstC h8
  obtain ⟨x9, l10, rfl, h10⟩ := lstC h9
  obtain ⟨x10, l11, rfl, h11⟩ := lstC h10
  obtain ⟨x11, l12, rfl, h12⟩ := lstC h11
  obtain ⟨x12, l13, rfl, h13⟩ := lstC h12
  obtain ⟨x13, l14, rfl, h14⟩ := lstC h13
  obtain ⟨x14, l15, rfl, h15⟩ := lstC h14
  obtain ⟨x15, l16, rfl, h16⟩ := lstC h15
  obtain ⟨x16, l17, rfl, h17⟩ := lstC h16
  obtain ⟨x17, l18, rfl, h18⟩ := lstC h17
  obtain ⟨x18, l19, rfl, h19⟩ := lstC h18
  obtain ⟨x19, l20, rfl, h20⟩ := lstC h19
  obtain ⟨x20, l21, rfl, h21⟩ := lstC h20
  obtain ⟨x21, l22, rfl, h22⟩ := lstC h21
  obtain ⟨x22, l23, rfl, h23⟩ := lstC h22
  obtain ⟨x23, l24, rfl, h24⟩ := lstC h23
  obtain ⟨x24, l25, rfl, h25⟩ := lstC h24
  obtain rfl := List.length_eq_zero_iff.1 h25
  exact ⟨x0, x1, x2, x3, x4, x5, x6, x7, x8, x9, x10, x11, x12, x13, x14, x15, x16, x17, x18, x19, x20, x21, x22, x23, x24, rfl⟩

/-- A tensor and a code, handed back: rows of one's own. -/
def RetTF (w : World) (sh ys : List Int) (z : Int) (e : Ending) (w' : World) : Prop :=
  ∃ a c b d, e = .returned (.tuple #[.agg #[.slice a sh.length c, .slice b ys.length d], .int .i64 z]) ∧ Fr w.heap.size w w' [] [] [⟨3, .slice a sh.length c, sh.length, sh.map (Value.int .i64)⟩, ⟨2, .slice b ys.length d, ys.length, ys.map (Value.int .i64)⟩] []
/-- What is told beside a code. -/
def zL (z : Int) (l : List Int) : List Int := if z = 0 then l else []
theorem zL_0 (l : List Int) : zL 0 l = l := rfl
theorem zL_ne {z : Int} (l : List Int) (h : z ≠ 0) : zL z l = [] := if_neg h
/-- A list and a code, handed back. -/
def RetLZ (w : World) (l : List Int) (z : Int) (e : Ending) (w' : World) : Prop :=
  ∃ a c, e = .returned (.tuple #[.slice a l.length c, .int .i64 z]) ∧ Fr w.heap.size w w' [] [] [⟨3, .slice a l.length c, l.length, l.map (Value.int .i64)⟩] []
theorem retTF_none {w w' : World} {z : Int} {B : List (Nat × List Value)} {I : List (IntKind × Option Addr × List Int)} (h : Fr w.heap.size w w' B I [] []) : RetTF w [] [] z (.returned (.tuple #[.agg #[.slice none 0 0, .slice none 0 0], .int .i64 z])) w' :=
  ⟨none, 0, none, 0, rfl, ((h.rows.addNil _).addNil _)⟩
theorem retLZ_none {w w' : World} {z : Int} {B : List (Nat × List Value)} {I : List (IntKind × Option Addr × List Int)} (h : Fr w.heap.size w w' B I [] []) : RetLZ w [] z (.returned (.tuple #[.slice none 0 0, .int .i64 z])) w' :=
  ⟨none, 0, rfl, (h.rows.addNil _)⟩
theorem results_ctZ {fn : Func} {p u : Tmp} {ty : TypeId} (h : fn.results = #[.cell p ty, .tmp u]) (tmps : Array Value) (P : Program) (w : World) :
    (results fn tmps).run P w = ((asAddr (tmps.getD p undef)).run P w).andThen fun a w₁ => ((loadVar ty a).run P w₁).andThen fun v w₂ => .ok (.tuple #[v, tmps.getD u undef]) w₂ := by
  simp only [results, h]
  simp [Sem.run_bind, Result.andThen]
theorem results_ttZ {fn : Func} {p u : Tmp} (h : fn.results = #[.tmp p, .tmp u]) (tmps : Array Value) (P : Program) (w : World) :
    (results fn tmps).run P w = .ok (.tuple #[tmps.getD p undef, tmps.getD u undef]) w := by
  simp only [results, h]
  simp [Sem.run_bind, Result.andThen]
theorem prodZ2 {k D u : Nat} (h : k * D = u) (hb : u ≤ 65536) : (∀ [Inhabited Unit], IntKind.i64.wrap ((k : Int) * (D : Int)) = (u : Int)) ∧ (∀ [Inhabited Unit], RowKit.wrap64 ((k : Int) * (D : Int)) = (u : Int)) := by
  have e : ((k : Int) * (D : Int)) = (u : Int) := by rw [← h]; norm_cast
  refine ⟨?_, ?_⟩ <;> intro _ <;> rw [e]
  · exact IntWalk.i64_in _ (by omega)
  · exact IntWalk.wrap64_in _ (by omega)
theorem prodZ3 {k D u : Nat} (h : (k + 1) * D = u) (hb : u ≤ 65536) : (∀ [Inhabited Unit], IntKind.i64.wrap (((k : Int) + 1) * (D : Int)) = (u : Int)) ∧ (∀ [Inhabited Unit], RowKit.wrap64 (((k : Int) + 1) * (D : Int)) = (u : Int)) := by
  have := prodZ2 (k := k + 1) h hb
  rw [show (((k + 1 : Nat) : Int)) = (k : Int) + 1 by omega] at this
  exact this
theorem prodZ4 {n D : Nat} (h : prodI [(n : Int), (D : Int)] ≤ 65536) : n * D ≤ 65536 := by
  rw [prodI, prodI, prodI, Int.mul_one, ← Int.natCast_mul] at h
  omega
theorem infoI64Z : (Tryz.prog.info? 2).map (fun i => (i.zero, i.size, i.bytes)) = some (some (.int .i64 0), 1, 8) := by kernel_rfl
/-- append of a part of a list to a row of one's own, as one step of a drawn region. -/
theorem stepAppN {ops : Array Oper} {o : Oper} {a : Act} {w : World} {K : Act → World → Prop} {Q : Exit → Act → World → Prop} {E' : Prop} (T E : TypeId)
    (hinf : (Tryz.prog.info? E).map (fun i => (i.zero, i.size, i.bytes)) = some (some (.int .i64 0), 1, 8)) (hu : Tryz.prog.underlying T = some (.slice E))
    (base : Nat) (v : Value) (n : Nat) (xs news : List Int) (m cap : Nat) (ad : Addr) (s x : Operand) (hg : o.guard = none) (ho : o.op = .call { callee := .builtin .append, args := #[s, x], argTypes := #[T, T] })
    (hs : a.eval s = v) (hown : w.ownsRow base E 1 v n (xs.map (Value.int .i64))) (hx : a.eval x = .slice (some ad) m cap) (hl : news.length = m) (hm : 0 < m) (hc : ∀ j (hj : j < news.length), w.cell? (ad.add j) = some (.int .i64 news[j])) (hn : n ≤ 10000000) (hm2 : m ≤ 10000000) (hb : base ≤ w.heap.size)
    (hK : ∀ g cap' w', w'.ownsRow base E 1 (.slice (some ⟨g, 0, none⟩) (n + m) cap') (n + m) ((xs ++ news).map (Value.int .i64)) → w.grownBy w' v.ownBlock → (v.ownBlock = some g ∨ g = w.heap.size) → K (a.put o.dst (.slice (some ⟨g, 0, none⟩) (n + m) cap')) w') :
    if Region.wanted o (yielded ops a.tmps) = true then Oper.wp Tryz.prog o a w K Q else E' := by
  obtain ⟨i, hi, hz0, hz1, hz2⟩ := info_parts hinf
  refine step_append_lies w hg s x T ho base E i (.int .i64 0) 1 8 hu hi hz0 hz1 hz2 rfl (by decide) v n _ hs hown ad m cap (news.map (Value.int .i64)) hx (by simp [hl]) (fun j u hj => ?_) (by simp [Value.oneCell']) hm (by unfold maxLen; omega) (by omega) hb _ rfl ?_
  · have hjl : j < news.length := by have := (List.getElem?_eq_some_iff.1 hj).1; simpa using this
    rw [List.getElem?_map, List.getElem?_eq_getElem hjl] at hj
    simp only [Option.map_some, Option.some.injEq] at hj
    rw [← hj]
    exact hc j hjl
  · intro g cap' w' h1 h2 h3 _
    exact hK g cap' w' (by rw [List.map_append]; exact h1) h2 h3

set_option maxRecDepth 100000 in
set_option maxHeartbeats 2000000 in
theorem rowsShape_any (a a2 : Option Addr) (c c2 : Nat) (xs ids : List Int) (w : World) (h : Ints .i64 w w.heap.size a xs) (h2 : Ints .i64 w w.heap.size a2 ids) (hx6 : xs.length ≤ 10) (hi6 : ids.length ≤ 100000) (hxw : ∀ x ∈ xs, -65537 ≤ x ∧ x ≤ 65537) :
    Calls Tryz.prog 20 #[.slice a xs.length c, .slice a2 ids.length c2] w (RetLZ w (embX xs ids) (embE xs ids)) := by
  have H0 := Lib.hid h
  have H1 := Lib.hid h2
  obtain ⟨Z, hZ⟩ : ∃ x, embE xs ids = x := ⟨_, rfl⟩
  have hX : embX xs ids = zL Z [(ids.length : Int), xs[1]?.getD 0] := by unfold embX zL; rw [hZ]
  rw [hX, hZ]
  have EZ := Lib.hid hZ
  clear hX hZ h h2
  by_cases h2 : xs.length = 2
  · skip
    have h2i : ((xs.length : Int) != 2) = false := by simp [h2]
    have h2j : (xs.length : Int) = 2 := by omega
    by_cases h0 : ids.length = 0
    · skip
      have hzz : Z = 2 := by rw [← EZ.out]; unfold embE; simp [h0]
      have h0i : ((ids.length : Int) == 0) = true := by simp [h0]
      have F1 := (Fr.start (w := w) (I := [(.i64, a, xs), (.i64, a2, ids)]) (by intro z hz; simp at hz; rcases hz with rfl | rfl; exact H0.out; exact H1.out))
      go_enter Tryz.func20, Tryz.ntmps20
      go_wp2
      obtain rfl := hzz
      refine bodyPost_ret (v := .tuple #[.slice none 0 0, .int .i64 2]) ?_ rfl (by show RetLZ w [] 2 _ _; exact retLZ_none F1)
      rw [results_ttZ rfl]
      go_simp
    · skip
      have h0i : ((ids.length : Int) == 0) = false := beq_false_of_ne (by omega)
      have h0j : ¬ (ids.length : Int) = 0 := by omega
      go_enter Tryz.func20, Tryz.ntmps20
      have F1 := Lib.hid (Fr.start (w := w) (I := [(.i64, a, xs), (.i64, a2, ids)]) (by intro z hz; simp at hz; rcases hz with rfl | rfl; exact H0.out; exact H1.out))
      go_wp2_with fail
      go_loopw [6] (fun s6 wr => ∃ k : Nat, k ≤ ids.length ∧ s6 = .int .i64 k ∧ Hid (∀ j, j < k → idP (xs[0]?.getD 0) (ids[j]?.getD 0) = true) ∧ Hid (Fr w.heap.size w wr [] [(.i64, a, xs), (.i64, a2, ids)] [] [])) (fun s6 _ => ids.length - (intOf s6).toNat)
      case atStart => exact ⟨0, Nat.zero_le _, rfl, Lib.hid (by simp), F1⟩
      case round =>
        obtain ⟨k, hk, rfl, HG, F2⟩ := hrel
        clear F1
        obtain ⟨wo, rfl⟩ : ∃ x : World, x = wr := ⟨_, rfl⟩
        by_cases hlt : k < ids.length
        · skip
          obtain ⟨ga, oa, haa, _, hca⟩ := (F2.out.l 0 rfl).cell 0 (by omega)
          obtain ⟨gi, oi, hii, _, hci⟩ := (F2.out.l 1 rfl).cell k hlt
          obtain ⟨x, hx⟩ : ∃ x, xs[0]?.getD 0 = x := ⟨_, rfl⟩
          obtain ⟨y, hy⟩ : ∃ x, ids[k]?.getD 0 = x := ⟨_, rfl⟩
          rw [hx] at hca HG
          rw [hy] at hci
          rw [Nat.add_zero] at hca
          have HX := Lib.hid hx
          have HY := Lib.hid hy
          subst haa
          subst hii
          clear hx hy
          have hki : (k : Int) < (ids.length : Int) := by omega
          have h02 : (0 : Int) < (xs.length : Int) := by omega
          go_upto_region 6 with fail
          by_cases hy0 : y < 0
          · skip
            have hzz : Z = 2 := by
              rw [← EZ.out]; unfold embE
              rw [if_neg]
              intro hq
              simp only [Bool.and_eq_true] at hq
              have := idsB_iff.1 hq.2.2 y (by rw [← HY.out, List.getElem?_eq_getElem hlt]; exact List.getElem_mem _)
              rw [HX.out] at this
              omega
            have d0 : decide (y < 0) = true := decide_eq_true hy0
            go_quiet (fail)
            have F3 := F2.out.drewN nq
            go_wp2
            obtain rfl := hzz
            refine bodyPost_ret (v := .tuple #[.slice none 0 0, .int .i64 2]) ?_ rfl (by show RetLZ w [] 2 _ _; exact retLZ_none F3)
            rw [results_ttZ rfl]
            go_simp
          · skip
            have d0 : decide (y < 0) = false := decide_eq_false hy0
            by_cases hy1 : x ≤ y
            · skip
              have hzz : Z = 2 := by
                rw [← EZ.out]; unfold embE
                rw [if_neg]
                intro hq
                simp only [Bool.and_eq_true] at hq
                have := idsB_iff.1 hq.2.2 y (by rw [← HY.out, List.getElem?_eq_getElem hlt]; exact List.getElem_mem _)
                rw [HX.out] at this
                omega
              have d1 : decide (x ≤ y) = true := decide_eq_true hy1
              go_quiet (fail)
              have F3 := F2.out.drewN nq
              go_wp2
              obtain rfl := hzz
              refine bodyPost_ret (v := .tuple #[.slice none 0 0, .int .i64 2]) ?_ rfl (by show RetLZ w [] 2 _ _; exact retLZ_none F3)
              rw [results_ttZ rfl]
              go_simp
            · skip
              have d1 : decide (x ≤ y) = false := decide_eq_false hy1
              go_quiet (fail)
              have F3 := Lib.hid (F2.out.drewN nq)
              have HG2 : Hid (∀ j, j < k + 1 → idP (xs[0]?.getD 0) (ids[j]?.getD 0) = true) := Lib.hid (fun j hj => by
                rw [HX.out]
                by_cases he : j < k
                · exact HG.out j he
                · obtain rfl : j = k := by omega
                  rw [HY.out]; unfold idP; simp; omega)
              go_wp2
              go_roundw
              case rel => exact ⟨k + 1, by omega, by go_num, HG2, F3⟩
              case measure => simp [intOf]; omega
        · obtain rfl : k = ids.length := by omega
          have hids : idsB (xs[0]?.getD 0) ids = true := by
            rw [idsB_all, List.all_eq_true]
            intro v hv
            obtain ⟨j, hj, rfl⟩ := List.getElem_of_mem hv
            have := HG.out j hj
            rw [List.getElem?_eq_getElem hj] at this
            exact this
          have hze : Z = if goodB [(ids.length : Int), xs[1]?.getD 0] = true then 0 else 5 := by rw [← EZ.out]; unfold embE; rw [hids, decide_eq_true h2, decide_eq_true h0]; rfl
          have HZE := Lib.hid hze
          clear hids hze HG hlt hk
          obtain ⟨ga, oa, haa, _, hca⟩ := (F2.out.l 0 rfl).cell 1 (by omega)
          have hxm := hxw (xs[1]?.getD 0) (by rw [List.getElem?_eq_getElem (by omega)]; exact List.getElem_mem _)
          obtain ⟨x, hx⟩ : ∃ x, xs[1]?.getD 0 = x := ⟨_, rfl⟩
          rw [hx] at hca HZE hxm
          have HX := Lib.hid hx
          subst haa
          clear hx
          have h12 : (1 : Int) < (xs.length : Int) := by omega
          obtain ⟨L, hL⟩ : ∃ l, [(ids.length : Int), x] = l := ⟨_, rfl⟩
          have hlw : ∀ v ∈ L, (Lit.int .i64 v).wf = true := by rw [← hL]; intro v hv; simp at hv; rcases hv with rfl | rfl; exact wf_i64_iff.2 ⟨by omega, by omega⟩; exact wf_i64_iff.2 ⟨by omega, by omega⟩
          have HLW := Lib.hid hlw
          have hl2 : L.length = 2 := by rw [← hL]; rfl
          have hrm := fun (p : Option Addr) W (h : Ints .i64 W W.heap.size p L) => rmay_any p 2 _ L W h
          rw [hl2] at hrm
          rw [hL] at HZE
          have hlm : (#[Value.int .i64 (ids.length : Int), Value.int .i64 x] : Array Value).toList = L.map (Value.int .i64) := by rw [← hL]; rfl
          have hlit := World.ownsRow_lit (base := wo.heap.size) (e := 3) (size := 1) wo #[Value.int .i64 (ids.length : Int), Value.int .i64 x] 2 (Nat.le_refl _) (by unfold maxLen; omega) (by simp)
          rw [hlm] at hlit
          have F3 := Lib.hid (F2.out.addO ((Below.refl _ _).alloc (Nat.le_refl _) _) hlit)
          simp only [List.nil_append] at F3
          have HL := Lib.hid hL
          clear hlit hlm hlw hL
          go_upto_region 9 with fail
          obtain ⟨X, hX⟩ : ∃ x, wo.heap.size = x := ⟨_, rfl⟩
          rw [hX] at F3
          (try simp only [hX])
          clear hX
          cases hg : goodB L with
          | true =>
            obtain rfl : Z = 0 := by rw [HZE.out, if_pos hg]
            rw [hg] at hrm
            go_wp2_with (go_at_call 17; refine (hrm _ _ (F3.out.li 0 (k := .i64) (xs := L) rfl HLW.out)).mono ?_; rintro e w' ⟨rfl, rfl⟩)
            refine bodyPost_ret (v := .tuple #[.slice (some ⟨X, 0, none⟩) 2 2, .int .i64 0]) ?_ rfl (by rw [zL_0, HX.out, HL.out]; exact ⟨some ⟨X, 0, none⟩, 2, by rw [hl2], by rw [hl2]; exact F3.out.rows⟩)
            rw [results_ttZ rfl]
            go_simp
          | false =>
            obtain rfl : Z = 5 := by rw [HZE.out, hg]; rfl
            rw [hg] at hrm
            go_wp2_with (go_at_call 17; refine (hrm _ _ (F3.out.li 0 (k := .i64) (xs := L) rfl HLW.out)).mono ?_; rintro e w' ⟨rfl, rfl⟩)
            refine bodyPost_ret (v := .tuple #[.slice none 0 0, .int .i64 5]) ?_ rfl (by show RetLZ w [] 5 _ _; exact retLZ_none (F3.out.less (.refl _) (.refl _) (List.nil_sublist _) (.refl _)))
            rw [results_ttZ rfl]
            go_simp
  · skip
    have hzz : Z = 2 := by rw [← EZ.out]; unfold embE; simp [h2]
    have h2i : ((xs.length : Int) != 2) = true := by simp; omega
    have F1 := (Fr.start (w := w) (I := [(.i64, a, xs), (.i64, a2, ids)]) (by intro z hz; simp at hz; rcases hz with rfl | rfl; exact H0.out; exact H1.out))
    go_enter Tryz.func20, Tryz.ntmps20
    go_wp2
    obtain rfl := hzz
    refine bodyPost_ret (v := .tuple #[.slice none 0 0, .int .i64 2]) ?_ rfl (by show RetLZ w [] 2 _ _; exact retLZ_none F1)
    rw [results_ttZ rfl]
    go_simp
set_option maxRecDepth 100000 in
set_option maxHeartbeats 4000000 in
theorem rrows_any (a b a2 : Option Addr) (c d c2 : Nat) (xs ys ids : List Int) (w : World) (h : Ints .i64 w w.heap.size a xs) (h2 : Ints .i64 w w.heap.size b ys) (h3 : Ints .i64 w w.heap.size a2 ids) (hcap : ys.length ≤ d ∧ d ≤ 9223372036854775807) (hi6 : ids.length ≤ 100000) (tT : tenB xs ys = true) :
    Calls Tryz.prog 8 #[.agg #[.slice a xs.length c, .slice b ys.length d], .slice a2 ids.length c2] w (RetTF w (embX xs ids) (embY xs ys ids) (embE xs ids)) := by
  have H0 := Lib.hid h
  have H1 := Lib.hid h2
  have H2 := Lib.hid h3
  have lT := tenB_iff.1 tT
  have h4 := (goodB_iff.1 lT.1).1
  have hD := goodB_dims lT.1
  have hP := goodB_prod lT.1
  have hyl : ys.length ≤ 65536 := by omega
  have HRS := Lib.hid (fun W (h : Ints .i64 W W.heap.size a xs) (h2 : Ints .i64 W W.heap.size a2 ids) => rowsShape_any a a2 c c2 xs ids W h h2 (by omega) hi6 (fun x hx => by have := hD x hx; omega))
  have HYW := Lib.hid h2.wf
  obtain ⟨Z, hZ⟩ : ∃ x, embE xs ids = x := ⟨_, rfl⟩
  have hX : embX xs ids = zL Z [(ids.length : Int), xs[1]?.getD 0] := by unfold embX zL; rw [hZ]
  have hY : embY xs ys ids = zL Z (rowsY (xs[1]?.getD 0).toNat ys ids) := by unfold embY zL; rw [hZ]
  rw [hX, hZ] at HRS
  rw [hX, hY, hZ]
  have EZ := Lib.hid hZ
  have HT := Lib.hid lT.2.1
  have HGX := Lib.hid lT.1
  clear hX hY hZ h h2 h3 lT hD tT hP
  by_cases hz : Z = 0
  · subst hz
    rw [zL_0] at HRS ⊢
    rw [zL_0]
    have hq := EZ.out
    unfold embE at hq
    have hb : (decide (xs.length = 2) && (decide (ids.length ≠ 0) && idsB (xs[0]?.getD 0) ids)) = true := by
      cases hc : (decide (xs.length = 2) && (decide (ids.length ≠ 0) && idsB (xs[0]?.getD 0) ids)) with
      | true => rfl
      | false => rw [hc, if_neg Bool.false_ne_true] at hq; exact absurd hq (by decide)
    have hgL : goodB [(ids.length : Int), xs[1]?.getD 0] = true := by
      rw [if_pos hb] at hq
      split at hq
      · assumption
      · exact absurd hq (by decide)
    simp only [Bool.and_eq_true, decide_eq_true_eq] at hb
    obtain ⟨hb1, hb2, hb3⟩ := hb
    obtain ⟨r, dd, hrd⟩ := list2 hb1
    subst hrd
    have e0 : ([r, dd] : List Int)[0]?.getD 0 = r := rfl
    have e1 : ([r, dd] : List Int)[1]?.getD 0 = dd := rfl
    rw [e0] at hb3
    rw [e1] at HRS hgL ⊢
    have hr := (goodB_dims HGX.out).head
    have hdd := (goodB_dims HGX.out).tail.head
    obtain ⟨R, rfl⟩ : ∃ k : Nat, r = k := ⟨r.toNat, by omega⟩
    obtain ⟨D, rfl⟩ : ∃ k : Nat, dd = k := ⟨dd.toNat, by omega⟩
    have hYL : ys.length = R * D := by have := HT.out; simp only [prodI, Int.mul_one] at this; exact_mod_cast this
    rw [Int.toNat_natCast]
    have hidk := idsB_iff.1 hb3
    have HID := Lib.hid hidk
    have HYL := Lib.hid hYL
    have hID : ids.length * D ≤ 65536 := prodZ4 (goodB_prod hgL).2
    have HIDB := Lib.hid hID
    obtain ⟨L, hL⟩ : ∃ l, [(ids.length : Int), (D : Int)] = l := ⟨_, rfl⟩
    have hl2 : L.length = 2 := by rw [← hL]; rfl
    rw [hL] at HRS ⊢
    have hlw : ∀ v ∈ L, (Lit.int .i64 v).wf = true := by rw [← hL]; intro v hv; simp at hv; rcases hv with rfl | rfl; exact wf_i64_iff.2 ⟨by omega, by omega⟩; exact wf_i64_iff.2 ⟨by omega, by omega⟩
    have HLW := Lib.hid hlw
    have HL := Lib.hid hL
    have HL2 := Lib.hid hl2
    clear hq hb1 hb2 hb3 hgL hID e0 e1 hidk hlw hL hYL hl2
    obtain ⟨XS, hXS⟩ : ∃ l, [(R : Int), (D : Int)] = l := ⟨_, rfl⟩
    rw [hXS] at H0 HRS HT HGX EZ h4
    rw [show ([(R : Int), (D : Int)] : List Int).length = XS.length by rw [hXS]]
    clear hXS
    go_enter Tryz.func8, Tryz.ntmps8
    have F1 := Lib.hid (((Fr.start (w := w) (I := [(.i64, a, XS), (.i64, b, ys), (.i64, a2, ids)]) (by intro z hz; simp at hz; rcases hz with rfl | rfl | rfl; exact H0.out; exact H1.out; exact H2.out)).box1 (b := w.heap.size) (by simp) [.slice a XS.length c, .slice b ys.length d] 26).box1 (b := w.heap.size + 1) (by simp) [.slice none 0 0, .slice none 0 0] 26)
    simp only [List.nil_append, List.cons_append] at F1
    go_upto_region 1 with fail
    obtain ⟨W1, hW1⟩ : ∃ W1, ((w.alloc (.cells #[.slice a XS.length c, .slice b ys.length d] 26)).alloc (.cells #[.slice none 0 0, .slice none 0 0] 26)) = W1 := ⟨_, rfl⟩
    rw [hW1] at F1 ⊢
    clear hW1
    have c0_0 := F1.out.c 0 0 rfl rfl
    have c0_1 := F1.out.c 0 1 rfl rfl
    go_upto_region 5 with (go_at_call 20; refine (HRS.out _ (F1.out.lw 0 rfl) (F1.out.lw 2 rfl)).mono ?_; rintro e w2 ⟨a2_, c2_, rfl, hf⟩; have F2 := Lib.hid (F1.out.join hf); simp only [List.cons_append, List.nil_append] at F2; clear hf F1 c0_0 c0_1)
    obtain ⟨Q, hQ⟩ : ∃ x, w2.heap.size = x := ⟨_, rfl⟩
    rw [hQ]
    have F3 := Lib.hid ((F2.out.box1 (b := Q) hQ [.slice a2_ L.length c2_, .slice none 0 0] 26).addNil 2)
    simp only [List.nil_append, List.cons_append] at F3
    obtain ⟨W3, hW3⟩ : ∃ x, (w2.alloc (.cells #[.slice a2_ L.length c2_, .slice none 0 0] 26)) = x := ⟨_, rfl⟩
    rw [hW3] at F3 ⊢
    clear hW3 hQ F2
    go_wp2_with fail
    go_loopw [9] (fun s9 wr => ∃ (k : Nat) (ab : Option Addr) (cb : Nat), k ≤ ids.length ∧ s9 = .int .i64 k ∧ Hid (Fr w.heap.size w wr [(w.heap.size, [.slice a XS.length c, .slice b ys.length d]), (w.heap.size + 1, [.slice none 0 0, .slice none 0 0]), (Q, [.slice a2_ L.length c2_, .slice ab (k * D) cb])] [(.i64, a, XS), (.i64, b, ys), (.i64, a2, ids)] [⟨3, .slice a2_ L.length c2_, L.length, L.map (Value.int .i64)⟩, ⟨2, .slice ab (k * D) cb, (k * D), (rowsY D ys (ids.take k)).map (Value.int .i64)⟩] [])) (fun s9 _ => ids.length - (intOf s9).toNat)
    case atStart => exact ⟨0, none, 0, Nat.zero_le _, rfl, Lib.hid (by rw [List.take_zero, Nat.zero_mul]; exact F3.out)⟩
    case round =>
      obtain ⟨k, ab, cb, hk, rfl, F4⟩ := hrel
      clear F3
      obtain ⟨wo, rfl⟩ : ∃ x : World, x = wr := ⟨_, rfl⟩
      by_cases hlt : k < ids.length
      · skip
        obtain ⟨gi, oi, hii, hli, hci⟩ := (F4.out.l 2 rfl).cell k hlt
        have hidk := HID.out ids[k] (List.getElem_mem hlt)
        rw [List.getElem?_eq_getElem hlt, Option.getD_some] at hci
        obtain ⟨q, hq⟩ : ∃ q : Nat, ids[k] = q := ⟨ids[k].toNat, by omega⟩
        rw [hq] at hci hidk
        have htk := take_snoc ids k hlt
        have hrs : rowsY D ys (ids.take (k + 1)) = rowsY D ys (ids.take k) ++ (ys.drop (q * D)).take D := by rw [htk, rowsY_snoc, hq]; unfold rowOf; rw [Int.toNat_natCast]
        have HRSN := Lib.hid hrs
        subst hii
        have hqR : q < R := by omega
        have hqD : q * D + D ≤ ys.length := by rw [HYL.out, ← Nat.succ_mul]; exact Nat.mul_le_mul_right D hqR
        obtain ⟨ua, hu⟩ : ∃ ua : Nat, q * D = ua := ⟨_, rfl⟩
        obtain ⟨va, hv⟩ : ∃ va : Nat, (q + 1) * D = va := ⟨_, rfl⟩
        have huv : va = ua + D := by rw [← hv, ← hu, Nat.succ_mul]
        rw [hu] at hqD hrs HRSN
        have HKU := Lib.hid (prodZ2 hu (by omega))
        have HKV := Lib.hid (prodZ3 hv (by omega))
        obtain ⟨g0, o0, hbb, hlb, hcb⟩ := (F4.out.l 1 rfl).cell ua (by omega)
        subst hbb
        have hD1 : 1 ≤ D := by omega
        have hrow : (rowsY D ys (ids.take k)).length = k * D := by have := (F4.out.r 1 rfl).1; simpa using this
        have hkD : k * D ≤ 65536 := Nat.le_trans (Nat.mul_le_mul_right D hk) HIDB.out
        have HUV := Lib.hid huv
        clear hu hv hidk hrs htk hq huv
        obtain ⟨a0, c0, he, hsh⟩ := own_shape (F4.out.r 0 rfl)
        simp only [Value.slice.injEq] at he
        obtain ⟨rfl, _, rfl⟩ := he
        obtain ⟨gl, rfl, _⟩ := hsh.resolve_left (by show ¬ L.length = 0; rw [HL2.out]; decide)
        have hgl : (L.map (Value.int .i64))[1]? = some (.int .i64 (D : Int)) := by rw [← HL.out]; rfl
        have HGL := Lib.hid hgl
        have h1L : (1 : Int) < (L.length : Int) := by rw [HL2.out]; decide
        have hki : (k : Int) < (ids.length : Int) := by omega
        have hcl := (F4.out.l 1 rfl).cell
        clear hgl
        obtain ⟨W4, rfl⟩ : ∃ x : World, x = wo := ⟨_, rfl⟩
        go_upto_region 8 with fail
        refine wp_region_parts2 (w := W4) 22 3 none [] [(fun u _ => u = .pointer (some ⟨Q, 1, none⟩)), (fun u _ => u = .slice ab (k * D) cb), (fun u _ => u = .pointer (some ⟨w.heap.size, 1, none⟩)), (fun u _ => u = .slice (some ⟨g0, o0, none⟩) ys.length d), (fun u _ => u = .slice (some ⟨gi, oi, none⟩) ids.length c2), (fun u _ => u = .int .i64 (k : Int)), (fun u _ => u = .pointer (some ⟨gi, oi + k, none⟩)), (fun u _ => u = .int .i64 (q : Int)), (fun u _ => u = .slice (some ⟨gl, 0, none⟩) L.length c2_), (fun u _ => u = .pointer (some ⟨gl, 1, none⟩)), (fun u _ => u = .int .i64 (D : Int)), (fun u _ => u = .int .i64 (ua : Int)), (fun u _ => u = .slice (some ⟨gi, oi, none⟩) ids.length c2), (fun u _ => u = .int .i64 (k : Int)), (fun u _ => u = .pointer (some ⟨gi, oi + k, none⟩)), (fun u _ => u = .int .i64 (q : Int)), (fun u _ => u = .int .i64 ((q : Int) + 1)), (fun u _ => u = .slice (some ⟨gl, 0, none⟩) L.length c2_), (fun u _ => u = .pointer (some ⟨gl, 1, none⟩)), (fun u _ => u = .int .i64 (D : Int)), (fun u _ => u = .int .i64 (va : Int)), (fun u _ => u = .slice (some ⟨g0, o0 + ua, none⟩) D (d - ua))] [some 29, some 30, some 31, some 32, some 33, some 34, some 35, some 36, some 37, some 38, some 39, some 40, some 41, some 42, some 43, some 44, some 45, some 46, some 47, some 48, some 49, some 50, some 51, some 52, none] #[true, true, true, true, true, true, true, true, true, true, true, true, true, true, true, true, true, true, true, true, true, true, false, false, false] #[true, true, true, true, true, true, true, true, true, true, true, true, true, true, true, true, true, true, true, true, true, true, false, false, false] (by kernel_rfl) rfl (by kernel_rfl) (by kernel_rfl) rfl (by kernel_rfl) (by kernel_rfl) (.cons (carries_eq _) (.cons (carries_eq _) (.cons (carries_eq _) (.cons (carries_eq _) (.cons (carries_eq _) (.cons (carries_eq _) (.cons (carries_eq _) (.cons (carries_eq _) (.cons (carries_eq _) (.cons (carries_eq _) (.cons (carries_eq _) (.cons (carries_eq _) (.cons (carries_eq _) (.cons (carries_eq _) (.cons (carries_eq _) (.cons (carries_eq _) (.cons (carries_eq _) (.cons (carries_eq _) (.cons (carries_eq _) (.cons (carries_eq _) (.cons (carries_eq _) (.cons (carries_eq _) .nil)))))))))))))))))))))) (fun vs b hvl hvb => ?_)
        obtain ⟨x0, x1, x2, x3, x4, x5, x6, x7, x8, x9, x10, x11, x12, x13, x14, x15, x16, x17, x18, x19, x20, x21, x22, x23, x24, rfl⟩ : ∃ x0 x1 x2 x3 x4 x5 x6 x7 x8 x9 x10 x11 x12 x13 x14 x15 x16 x17 x18 x19 x20 x21 x22 x23 x24, vs = [x0, x1, x2, x3, x4, x5, x6, x7, x8, x9, x10, x11, x12, x13, x14, x15, x16, x17, x18, x19, x20, x21, x22, x23, x24] := lst25 hvl
        clear hvl
        simp only [putAll, Act.put, List.setIfInBounds_toArray, List.set_cons_zero, List.set_cons_succ] at hvb
        subst hvb
        refine ⟨(.snoc (.snoc (.snoc (.snoc (.snoc (.snoc (.snoc (.snoc (.snoc (.snoc (.snoc (.snoc (.snoc (.snoc (.snoc (.snoc (.snoc (.snoc (.snoc (.snoc (.snoc (.snoc .zero (PartOb.intro (d := (some 29)) (r := fun u _ => u = .pointer (some ⟨Q, 1, none⟩)) rfl rfl rfl rfl ?po8x0)) (PartOb.intro (d := (some 30)) (r := fun u _ => u = .slice ab (k * D) cb) rfl rfl rfl rfl ?po8x1)) (PartOb.intro (d := (some 31)) (r := fun u _ => u = .pointer (some ⟨w.heap.size, 1, none⟩)) rfl rfl rfl rfl ?po8x2)) (PartOb.intro (d := (some 32)) (r := fun u _ => u = .slice (some ⟨g0, o0, none⟩) ys.length d) rfl rfl rfl rfl ?po8x3)) (PartOb.intro (d := (some 33)) (r := fun u _ => u = .slice (some ⟨gi, oi, none⟩) ids.length c2) rfl rfl rfl rfl ?po8x4)) (PartOb.intro (d := (some 34)) (r := fun u _ => u = .int .i64 (k : Int)) rfl rfl rfl rfl ?po8x5)) (PartOb.intro (d := (some 35)) (r := fun u _ => u = .pointer (some ⟨gi, oi + k, none⟩)) rfl rfl rfl rfl ?po8x6)) (PartOb.intro (d := (some 36)) (r := fun u _ => u = .int .i64 (q : Int)) rfl rfl rfl rfl ?po8x7)) (PartOb.intro (d := (some 37)) (r := fun u _ => u = .slice (some ⟨gl, 0, none⟩) L.length c2_) rfl rfl rfl rfl ?po8x8)) (PartOb.intro (d := (some 38)) (r := fun u _ => u = .pointer (some ⟨gl, 1, none⟩)) rfl rfl rfl rfl ?po8x9)) (PartOb.intro (d := (some 39)) (r := fun u _ => u = .int .i64 (D : Int)) rfl rfl rfl rfl ?po8x10)) (PartOb.intro (d := (some 40)) (r := fun u _ => u = .int .i64 (ua : Int)) rfl rfl rfl rfl ?po8x11)) (PartOb.intro (d := (some 41)) (r := fun u _ => u = .slice (some ⟨gi, oi, none⟩) ids.length c2) rfl rfl rfl rfl ?po8x12)) (PartOb.intro (d := (some 42)) (r := fun u _ => u = .int .i64 (k : Int)) rfl rfl rfl rfl ?po8x13)) (PartOb.intro (d := (some 43)) (r := fun u _ => u = .pointer (some ⟨gi, oi + k, none⟩)) rfl rfl rfl rfl ?po8x14)) (PartOb.intro (d := (some 44)) (r := fun u _ => u = .int .i64 (q : Int)) rfl rfl rfl rfl ?po8x15)) (PartOb.intro (d := (some 45)) (r := fun u _ => u = .int .i64 ((q : Int) + 1)) rfl rfl rfl rfl ?po8x16)) (PartOb.intro (d := (some 46)) (r := fun u _ => u = .slice (some ⟨gl, 0, none⟩) L.length c2_) rfl rfl rfl rfl ?po8x17)) (PartOb.intro (d := (some 47)) (r := fun u _ => u = .pointer (some ⟨gl, 1, none⟩)) rfl rfl rfl rfl ?po8x18)) (PartOb.intro (d := (some 48)) (r := fun u _ => u = .int .i64 (D : Int)) rfl rfl rfl rfl ?po8x19)) (PartOb.intro (d := (some 49)) (r := fun u _ => u = .int .i64 (va : Int)) rfl rfl rfl rfl ?po8x20)) (PartOb.intro (d := (some 50)) (r := fun u _ => u = .slice (some ⟨g0, o0 + ua, none⟩) D (d - ua)) rfl rfl rfl rfl ?po8x21)), ?pend8, ?pfl8⟩
        case po8x0 =>
          intro w1 hb1 hd KK hK
          clear hd
          simp only [Act.put, List.setIfInBounds_toArray, List.set_cons_zero, List.set_cons_succ] at hK
          go_simp
          first | exact hK.out _ _ (Below.refl _ _) rfl | (have hk := hK.out _ _ (Below.refl _ _) rfl; revert hk; go_simp)
        case po8x1 =>
          intro w1 hb1 hd KK hK
          have d0 : x0 = .pointer (some ⟨Q, 1, none⟩) := hd 0 (by kernel_rfl)
          clear hd
          subst d0
          have hF := F4.out.next hb1
          have k1 := hF.c 2 1 rfl rfl
          simp only [Act.put, List.setIfInBounds_toArray, List.set_cons_zero, List.set_cons_succ] at hK
          go_simp
          first | exact hK.out _ _ (Below.refl _ _) rfl | (have hk := hK.out _ _ (Below.refl _ _) rfl; revert hk; go_simp)
        case po8x2 =>
          intro w1 hb1 hd KK hK
          clear hd
          simp only [Act.put, List.setIfInBounds_toArray, List.set_cons_zero, List.set_cons_succ] at hK
          go_simp
          first | exact hK.out _ _ (Below.refl _ _) rfl | (have hk := hK.out _ _ (Below.refl _ _) rfl; revert hk; go_simp)
        case po8x3 =>
          intro w1 hb1 hd KK hK
          have d2 : x2 = .pointer (some ⟨w.heap.size, 1, none⟩) := hd 2 (by kernel_rfl)
          clear hd
          subst d2
          have hF := F4.out.next hb1
          have k1 := hF.c 0 1 rfl rfl
          simp only [Act.put, List.setIfInBounds_toArray, List.set_cons_zero, List.set_cons_succ] at hK
          go_simp
          first | exact hK.out _ _ (Below.refl _ _) rfl | (have hk := hK.out _ _ (Below.refl _ _) rfl; revert hk; go_simp)
        case po8x4 =>
          intro w1 hb1 hd KK hK
          clear hd
          simp only [Act.put, List.setIfInBounds_toArray, List.set_cons_zero, List.set_cons_succ] at hK
          go_simp
          first | exact hK.out _ _ (Below.refl _ _) rfl | (have hk := hK.out _ _ (Below.refl _ _) rfl; revert hk; go_simp)
        case po8x5 =>
          intro w1 hb1 hd KK hK
          clear hd
          simp only [Act.put, List.setIfInBounds_toArray, List.set_cons_zero, List.set_cons_succ] at hK
          go_simp
          first | exact hK.out _ _ (Below.refl _ _) rfl | (have hk := hK.out _ _ (Below.refl _ _) rfl; revert hk; go_simp)
        case po8x6 =>
          intro w1 hb1 hd KK hK
          have d4 : x4 = .slice (some ⟨gi, oi, none⟩) ids.length c2 := hd 4 (by kernel_rfl)
          have d5 : x5 = .int .i64 (k : Int) := hd 5 (by kernel_rfl)
          clear hd
          subst d4
          subst d5
          simp only [Act.put, List.setIfInBounds_toArray, List.set_cons_zero, List.set_cons_succ] at hK
          go_simp
          first | exact hK.out _ _ (Below.refl _ _) rfl | (have hk := hK.out _ _ (Below.refl _ _) rfl; revert hk; go_simp)
        case po8x7 =>
          intro w1 hb1 hd KK hK
          have d6 : x6 = .pointer (some ⟨gi, oi + k, none⟩) := hd 6 (by kernel_rfl)
          clear hd
          subst d6
          have hcx := (hb1.cell (p := ⟨gi, oi + k, none⟩) (Nat.lt_of_lt_of_le hli F4.out.hlo)).trans hci
          simp only [Act.put, List.setIfInBounds_toArray, List.set_cons_zero, List.set_cons_succ] at hK
          go_simp
          first | exact hK.out _ _ (Below.refl _ _) rfl | (have hk := hK.out _ _ (Below.refl _ _) rfl; revert hk; go_simp)
        case po8x8 =>
          intro w1 hb1 hd KK hK
          clear hd
          simp only [Act.put, List.setIfInBounds_toArray, List.set_cons_zero, List.set_cons_succ] at hK
          go_simp
          first | exact hK.out _ _ (Below.refl _ _) rfl | (have hk := hK.out _ _ (Below.refl _ _) rfl; revert hk; go_simp)
        case po8x9 =>
          intro w1 hb1 hd KK hK
          have d8 : x8 = .slice (some ⟨gl, 0, none⟩) L.length c2_ := hd 8 (by kernel_rfl)
          clear hd
          subst d8
          simp only [Act.put, List.setIfInBounds_toArray, List.set_cons_zero, List.set_cons_succ] at hK
          go_simp
          first | exact hK.out _ _ (Below.refl _ _) rfl | (have hk := hK.out _ _ (Below.refl _ _) rfl; revert hk; go_simp)
        case po8x10 =>
          intro w1 hb1 hd KK hK
          have d9 : x9 = .pointer (some ⟨gl, 1, none⟩) := hd 9 (by kernel_rfl)
          clear hd
          subst d9
          have hF := F4.out.next hb1
          obtain ⟨r1, r2⟩ := hF.rc 0 1 rfl HGL.out
          simp only [Act.put, List.setIfInBounds_toArray, List.set_cons_zero, List.set_cons_succ] at hK
          go_simp
          first | exact hK.out _ _ (Below.refl _ _) rfl | (have hk := hK.out _ _ (Below.refl _ _) rfl; revert hk; go_simp)
        case po8x11 =>
          intro w1 hb1 hd KK hK
          have d7 : x7 = .int .i64 (q : Int) := hd 7 (by kernel_rfl)
          have d10 : x10 = .int .i64 (D : Int) := hd 10 (by kernel_rfl)
          clear hd
          subst d7
          subst d10
          obtain ⟨hku, hku2⟩ := HKU.out
          simp only [Act.put, List.setIfInBounds_toArray, List.set_cons_zero, List.set_cons_succ] at hK
          go_simp
          first | exact hK.out _ _ (Below.refl _ _) rfl | (have hk := hK.out _ _ (Below.refl _ _) rfl; revert hk; go_simp)
        case po8x12 =>
          intro w1 hb1 hd KK hK
          clear hd
          simp only [Act.put, List.setIfInBounds_toArray, List.set_cons_zero, List.set_cons_succ] at hK
          go_simp
          first | exact hK.out _ _ (Below.refl _ _) rfl | (have hk := hK.out _ _ (Below.refl _ _) rfl; revert hk; go_simp)
        case po8x13 =>
          intro w1 hb1 hd KK hK
          clear hd
          simp only [Act.put, List.setIfInBounds_toArray, List.set_cons_zero, List.set_cons_succ] at hK
          go_simp
          first | exact hK.out _ _ (Below.refl _ _) rfl | (have hk := hK.out _ _ (Below.refl _ _) rfl; revert hk; go_simp)
        case po8x14 =>
          intro w1 hb1 hd KK hK
          have d12 : x12 = .slice (some ⟨gi, oi, none⟩) ids.length c2 := hd 12 (by kernel_rfl)
          have d13 : x13 = .int .i64 (k : Int) := hd 13 (by kernel_rfl)
          clear hd
          subst d12
          subst d13
          simp only [Act.put, List.setIfInBounds_toArray, List.set_cons_zero, List.set_cons_succ] at hK
          go_simp
          first | exact hK.out _ _ (Below.refl _ _) rfl | (have hk := hK.out _ _ (Below.refl _ _) rfl; revert hk; go_simp)
        case po8x15 =>
          intro w1 hb1 hd KK hK
          have d14 : x14 = .pointer (some ⟨gi, oi + k, none⟩) := hd 14 (by kernel_rfl)
          clear hd
          subst d14
          have hcx := (hb1.cell (p := ⟨gi, oi + k, none⟩) (Nat.lt_of_lt_of_le hli F4.out.hlo)).trans hci
          simp only [Act.put, List.setIfInBounds_toArray, List.set_cons_zero, List.set_cons_succ] at hK
          go_simp
          first | exact hK.out _ _ (Below.refl _ _) rfl | (have hk := hK.out _ _ (Below.refl _ _) rfl; revert hk; go_simp)
        case po8x16 =>
          intro w1 hb1 hd KK hK
          have d15 : x15 = .int .i64 (q : Int) := hd 15 (by kernel_rfl)
          clear hd
          subst d15
          have hw1 : ∀ [Inhabited Unit], IntKind.i64.wrap ((q : Int) + 1) = (q : Int) + 1 := by intro _; exact IntWalk.i64_in _ (by omega)
          simp only [Act.put, List.setIfInBounds_toArray, List.set_cons_zero, List.set_cons_succ] at hK
          go_simp
          first | exact hK.out _ _ (Below.refl _ _) rfl | (have hk := hK.out _ _ (Below.refl _ _) rfl; revert hk; go_simp)
        case po8x17 =>
          intro w1 hb1 hd KK hK
          clear hd
          simp only [Act.put, List.setIfInBounds_toArray, List.set_cons_zero, List.set_cons_succ] at hK
          go_simp
          first | exact hK.out _ _ (Below.refl _ _) rfl | (have hk := hK.out _ _ (Below.refl _ _) rfl; revert hk; go_simp)
        case po8x18 =>
          intro w1 hb1 hd KK hK
          have d17 : x17 = .slice (some ⟨gl, 0, none⟩) L.length c2_ := hd 17 (by kernel_rfl)
          clear hd
          subst d17
          simp only [Act.put, List.setIfInBounds_toArray, List.set_cons_zero, List.set_cons_succ] at hK
          go_simp
          first | exact hK.out _ _ (Below.refl _ _) rfl | (have hk := hK.out _ _ (Below.refl _ _) rfl; revert hk; go_simp)
        case po8x19 =>
          intro w1 hb1 hd KK hK
          have d18 : x18 = .pointer (some ⟨gl, 1, none⟩) := hd 18 (by kernel_rfl)
          clear hd
          subst d18
          have hF := F4.out.next hb1
          obtain ⟨r1, r2⟩ := hF.rc 0 1 rfl HGL.out
          simp only [Act.put, List.setIfInBounds_toArray, List.set_cons_zero, List.set_cons_succ] at hK
          go_simp
          first | exact hK.out _ _ (Below.refl _ _) rfl | (have hk := hK.out _ _ (Below.refl _ _) rfl; revert hk; go_simp)
        case po8x20 =>
          intro w1 hb1 hd KK hK
          have d16 : x16 = .int .i64 ((q : Int) + 1) := hd 16 (by kernel_rfl)
          have d19 : x19 = .int .i64 (D : Int) := hd 19 (by kernel_rfl)
          clear hd
          subst d16
          subst d19
          obtain ⟨hku, hku2⟩ := HKV.out
          simp only [Act.put, List.setIfInBounds_toArray, List.set_cons_zero, List.set_cons_succ] at hK
          go_simp
          first | exact hK.out _ _ (Below.refl _ _) rfl | (have hk := hK.out _ _ (Below.refl _ _) rfl; revert hk; go_simp)
        case po8x21 =>
          intro w1 hb1 hd KK hK
          have d3 : x3 = .slice (some ⟨g0, o0, none⟩) ys.length d := hd 3 (by kernel_rfl)
          have d11 : x11 = .int .i64 (ua : Int) := hd 11 (by kernel_rfl)
          have d20 : x20 = .int .i64 (va : Int) := hd 20 (by kernel_rfl)
          clear hd
          subst d3
          subst d11
          subst d20
          have g1_ : (ua : Int) ≤ (va : Int) := by have := HUV.out; omega
          have g2_ : (va : Int) ≤ (d : Int) := by have := HUV.out; omega
          have g3_ : ¬ d = ua := by omega
          have g4_ : va - ua = D := by have := HUV.out; omega
          simp only [Act.put, List.setIfInBounds_toArray, List.set_cons_zero, List.set_cons_succ] at hK
          go_simp
          first | exact hK.out _ _ (Below.refl _ _) rfl | (have hk := hK.out _ _ (Below.refl _ _) rfl; revert hk; go_simp)
        case pfl8 => (intro f hf; cases hf)
        case pend8 =>
        intro w1 hb1 hR hD
        have d0 : x0 = .pointer (some ⟨Q, 1, none⟩) := hR 0 (by decide)
        have d1 : x1 = .slice ab (k * D) cb := hR 1 (by decide)
        have d2 : x2 = .pointer (some ⟨w.heap.size, 1, none⟩) := hR 2 (by decide)
        have d3 : x3 = .slice (some ⟨g0, o0, none⟩) ys.length d := hR 3 (by decide)
        have d4 : x4 = .slice (some ⟨gi, oi, none⟩) ids.length c2 := hR 4 (by decide)
        have d5 : x5 = .int .i64 (k : Int) := hR 5 (by decide)
        have d6 : x6 = .pointer (some ⟨gi, oi + k, none⟩) := hR 6 (by decide)
        have d7 : x7 = .int .i64 (q : Int) := hR 7 (by decide)
        have d8 : x8 = .slice (some ⟨gl, 0, none⟩) L.length c2_ := hR 8 (by decide)
        have d9 : x9 = .pointer (some ⟨gl, 1, none⟩) := hR 9 (by decide)
        have d10 : x10 = .int .i64 (D : Int) := hR 10 (by decide)
        have d11 : x11 = .int .i64 (ua : Int) := hR 11 (by decide)
        have d12 : x12 = .slice (some ⟨gi, oi, none⟩) ids.length c2 := hR 12 (by decide)
        have d13 : x13 = .int .i64 (k : Int) := hR 13 (by decide)
        have d14 : x14 = .pointer (some ⟨gi, oi + k, none⟩) := hR 14 (by decide)
        have d15 : x15 = .int .i64 (q : Int) := hR 15 (by decide)
        have d16 : x16 = .int .i64 ((q : Int) + 1) := hR 16 (by decide)
        have d17 : x17 = .slice (some ⟨gl, 0, none⟩) L.length c2_ := hR 17 (by decide)
        have d18 : x18 = .pointer (some ⟨gl, 1, none⟩) := hR 18 (by decide)
        have d19 : x19 = .int .i64 (D : Int) := hR 19 (by decide)
        have d20 : x20 = .int .i64 (va : Int) := hR 20 (by decide)
        have d21 : x21 = .slice (some ⟨g0, o0 + ua, none⟩) D (d - ua) := hR 21 (by decide)
        clear hR hD
        subst d0
        subst d1
        subst d2
        subst d3
        subst d4
        subst d5
        subst d6
        subst d7
        subst d8
        subst d9
        subst d10
        subst d11
        subst d12
        subst d13
        subst d14
        subst d15
        subst d16
        subst d17
        subst d18
        subst d19
        subst d20
        subst d21
        refine wpAny_ready (rs := [22]) (by kernel_rfl) (by simp) (AllReady.cons rfl (fun KK hK => ?_) AllReady.nil)
        have G3 := F4.out.next hb1
        refine stepAppN 24 2 infoI64Z Tryz.underlying24 w.heap.size (.slice ab (k * D) cb) (k * D) (rowsY D ys (ids.take k)) ((ys.drop ua).take D) D (d - ua) ⟨g0, o0 + ua, none⟩ _ _ rfl rfl rfl (G3.r 1 rfl) rfl (by rw [List.length_take, List.length_drop]; omega) (by omega) (fun j hj => ?_) (by omega) (by omega) G3.hlo ?_
        · have hjD : j < D := by rw [List.length_take] at hj; omega
          obtain ⟨gz, oz, ez, _, hcz⟩ := (G3.l 1 rfl).cell (ua + j) (by omega)
          injection ez with ez
          injection ez with ez1 ez2
          subst ez1
          subst ez2
          rw [Addr.add_lit, Nat.add_assoc, hcz, List.getElem?_eq_getElem (by omega), Option.getD_some, List.getElem_take, List.getElem_drop]
        intro g3 c3 w3 hown hgr hob
        rw [← HRSN.out] at hown
        have G4 := G3.wroteO 1 rfl hgr hown (fun g hg => by rcases hob with h | h; exact .inl (h.trans hg); exact .inr (by injection hg with hg; simp only at hg; omega))
        simp only [List.set_cons_zero, List.set_cons_succ] at G4
        clear hown hgr hob G3
        refine hK _ _ ?_
        clear hK KK
        try simp only [putAll, Act.put, List.setIfInBounds_toArray, List.set_cons_zero, List.set_cons_succ]
        refine wpAny_ready (rs := [23]) (by kernel_rfl) (by simp) (AllReady.cons rfl (fun KK hK => ?_) AllReady.nil)
        go_simp
        refine hK _ _ ?_
        clear hK KK
        try simp only [putAll, Act.put, List.setIfInBounds_toArray, List.set_cons_zero, List.set_cons_succ]
        refine wpAny_ready (rs := [24]) (by kernel_rfl) (by simp) (AllReady.cons rfl (fun KK hK => ?_) AllReady.nil)
        have q0 := G4.c 2 1 rfl rfl
        have q1 := G4.f 2 1 rfl rfl
        go_simp
        refine hK _ _ ?_
        clear hK KK
        try simp only [putAll, Act.put, List.setIfInBounds_toArray, List.set_cons_zero, List.set_cons_succ]
        refine wpAny_done (by kernel_rfl) ?_ _
        have G5 := Lib.hid (G4.setC 2 1 rfl (by simp) (.slice (some ⟨g3, 0, none⟩) (k * D + D) c3))
        simp only [List.set_cons_zero, List.set_cons_succ] at G5
        have hsm : k * D + D = (k + 1) * D := (Nat.succ_mul k D).symm
        rw [hsm] at G5 ⊢
        obtain ⟨V9, hV9⟩ : ∃ V9, w3.setCell ⟨Q, 1, none⟩ (.slice (some ⟨g3, 0, none⟩) ((k + 1) * D) c3) = V9 := ⟨_, rfl⟩
        rw [hV9] at G5 ⊢
        clear hV9 G4 F4 q0 q1 hb1 hsm
        go_wp2
        go_roundw
        case rel => exact ⟨k + 1, some ⟨g3, 0, none⟩, c3, by omega, by go_num, G5⟩
        case measure => simp [intOf]; omega
      · obtain rfl : k = ids.length := by omega
        have hlen : (rowsY D ys ids).length = ids.length * D := rowsY_len HYL.out HID.out
        have F5 := F4.out
        rw [List.take_length, ← hlen] at F5
        have F6 := Lib.hid F5
        obtain ⟨RY, hRY⟩ : ∃ x, rowsY D ys ids = x := ⟨_, rfl⟩
        rw [hRY] at F6 hlen
        have HRY := Lib.hid hRY
        clear F5 F4 hRY hlen
        have u2_0 := F6.out.c 2 0 rfl rfl
        have u2_1 := F6.out.c 2 1 rfl rfl
        have u1_0 := F6.out.c 1 0 rfl rfl
        have u1_1 := F6.out.c 1 1 rfl rfl
        have uf1_0 := F6.out.f 1 0 rfl rfl
        have uf1_1 := F6.out.f 1 1 rfl rfl
        go_wp2
        have FZ := F6.out.set 1 rfl (by simp) [.slice a2_ L.length c2_, .slice ab RY.length cb] rfl
        simp only [setL, Nat.reduceAdd, List.set_cons_zero, List.set_cons_succ] at FZ
        have y0 := FZ.c 1 0 rfl rfl
        have y1 := FZ.c 1 1 rfl rfl
        refine bodyPost_ret (v := .tuple #[.agg #[.slice a2_ L.length c2_, .slice ab RY.length cb], .int .i64 0]) ?_ rfl (by rw [HRY.out]; exact ⟨a2_, c2_, ab, cb, rfl, FZ.rows⟩)
        rw [results_ctZ rfl]
        go_simp
  · skip
    rw [zL_ne _ hz] at HRS ⊢
    rw [zL_ne _ hz]
    have hzb : (Z != 0) = true := by simpa using hz
    go_enter Tryz.func8, Tryz.ntmps8
    have F1 := Lib.hid (((Fr.start (w := w) (I := [(.i64, a, xs), (.i64, b, ys), (.i64, a2, ids)]) (by intro z hz; simp at hz; rcases hz with rfl | rfl | rfl; exact H0.out; exact H1.out; exact H2.out)).box1 (b := w.heap.size) (by simp) [.slice a xs.length c, .slice b ys.length d] 26).box1 (b := w.heap.size + 1) (by simp) [.slice none 0 0, .slice none 0 0] 26)
    simp only [List.nil_append, List.cons_append] at F1
    go_upto_region 1 with fail
    obtain ⟨W1, hW1⟩ : ∃ W1, ((w.alloc (.cells #[.slice a xs.length c, .slice b ys.length d] 26)).alloc (.cells #[.slice none 0 0, .slice none 0 0] 26)) = W1 := ⟨_, rfl⟩
    rw [hW1] at F1 ⊢
    clear hW1
    have c0_0 := F1.out.c 0 0 rfl rfl
    have c0_1 := F1.out.c 0 1 rfl rfl
    go_wp2_with (go_at_call 20; refine (HRS.out _ (F1.out.lw 0 rfl) (F1.out.lw 2 rfl)).mono ?_; rintro e w2 ⟨a2_, c2_, rfl, hf⟩; have F2 := Lib.hid (F1.out.join hf); simp only [List.cons_append, List.nil_append] at F2; clear hf F1 c0_0 c0_1; have d1_0 := F2.out.c 1 0 rfl rfl; have d1_1 := F2.out.c 1 1 rfl rfl; have df1_0 := F2.out.f 1 0 rfl rfl; have df1_1 := F2.out.f 1 1 rfl rfl)
    have FZ := F2.out.set 1 rfl (by simp) [.slice none 0 0, .slice none 0 0] rfl
    simp only [setL, Nat.reduceAdd, List.set_cons_zero, List.set_cons_succ] at FZ
    have y0 := FZ.c 1 0 rfl rfl
    have y1 := FZ.c 1 1 rfl rfl
    refine bodyPost_ret (v := .tuple #[.agg #[.slice none 0 0, .slice none 0 0], .int .i64 Z]) ?_ rfl (retTF_none (FZ.less (.refl _) (.refl _) (List.nil_sublist _) (.refl _)))
    rw [results_ctZ rfl]
    go_simp
end Go.Proofs.YtimjhjacinchjaaGreat
