/- Walks: reduce.sums. -/
import Derived.Test.YtmjcpgfekpedkaaRdC
import Derived.Test.YtmjcpgfekpedkaaRdT
import Derived.Test.YtmjcpgfekpedkaaPartsIn
import Derived.Test.YtmjcpgfekpedkaaInv
import Derived.Test.YtmjcpgfekpedkaaInvIn
import Derived.Deep.CutBlock
set_option linter.unusedVariables false
set_option linter.unusedSimpArgs false
namespace Go.Rt
/-- make of cells, as a new block. -/
theorem wpl_makeC {P : Program} {w : World} {ops : Array Oper} {rest : List Oper} {o : Oper} {a : Act} {Q : Exit → Act → World → Prop} (T E : TypeId) (v0 : Value) (sz by0 : Nat) (hby : by0 ≤ 16)
    (hinf : (P.info? E).map (fun i => (i.zero, i.size, i.bytes)) = some (some v0, sz, by0)) (hu : P.underlying T = some (.slice E))
    (n : Nat) (L C : Int) (l c : Operand) (hg : o.guard = none) (hop : o.op = Op.makeSlice T l c) (hl : a.eval l = .int .i64 L) (hc : a.eval c = .int .i64 C) (hL : L = (n : Int)) (hC : C = (n : Int))
    (hn : n ≤ 17592186044416)
    (hK : wpList P ops Q rest (a.put o.dst (.slice (some ⟨w.heap.size, 0, none⟩) n n)) (w.alloc (.cells (madeCells v0.cells (n * sz)) E))) : wpList P ops Q (o :: rest) a w := by
  obtain ⟨i, hi, hz0, hz1, hz2⟩ := info_parts hinf
  refine wpList_plain hg fun K hK' => ?_
  subst hL; subst hC
  have hmul : by0 * n ≤ 16 * n := Nat.mul_le_mul_right n hby
  have hmul2 : (by0 : Int) * (n : Int) ≤ 281474976710656 := by
    have : ((by0 * n : Nat) : Int) ≤ 281474976710656 := by omega
    rwa [Int.natCast_mul] at this
  have hr := run_make (P := P) w T E i v0 hu hi hz0 .i64 .i64 n n (by omega) (Int.le_refl _) (by rw [hz2]; exact hmul2) (by omega)
  simp only [Int.toNat_natCast, hz1] at hr
  unfold Oper.wp
  simp [execOp, hop, hl, hc, hr, Result.andThen]
  exact hK' _ _ hK
end Go.Rt
namespace Go.Proofs.Ytmjcpgfekpedkaa
open Go.RowKit Go.Rt
theorem infoWide : (Try.prog.info? 77).map (fun i => (i.zero, i.size, i.bytes)) = some (some (.agg #[.int .i64 0, .int .u64 0]), 2, 16) := by kernel_rfl

theorem made_wide (n : Nat) : (madeCells (Value.agg #[.int .i64 0, .int .u64 0]).cells (n * 2)).toList = wcells (fun _ => 0) n := by
  refine List.ext_getElem? fun i => ?_
  by_cases hi : i < n * 2
  · rw [wcells_get hi]
    have hc : (Value.agg #[.int .i64 0, .int .u64 0]).cells = #[.int .i64 0, .int .u64 0] := by simp [Value.cells]
    rw [hc]
    simp only [madeCells, Array.toList_map, Array.toList_range, List.getElem?_map, List.getElem?_range hi, Option.map_some]
    have h2 : i % 2 = 0 ∨ i % 2 = 1 := by omega
    rcases h2 with h2 | h2 <;> simp [h2]
  · rw [List.getElem?_eq_none (by simp [madeCells]; omega), List.getElem?_eq_none (by rw [wcells_len]; omega)]
theorem V_split (S : Int) : V (S / 18446744073709551616) (S % 18446744073709551616) = S := by unfold V; omega
theorem WR_split {S : Int} (h : inR S) : WR (S / 18446744073709551616) (S % 18446744073709551616) := by
  unfold inR at h
  exact ⟨by omega, by omega, by omega, by omega⟩
theorem V_from {y : Int} (h0 : -9223372036854775808 ≤ y) (h1 : y ≤ 9223372036854775807) : V (y / 9223372036854775808) (y % 18446744073709551616) = y ∧ WR (y / 9223372036854775808) (y % 18446744073709551616) := by
  unfold V
  exact ⟨by omega, by omega, by omega, by omega, by omega⟩
/-- What sums hands back: what is left of the shape, the sums, how many words each has. -/
def RetSums (w : World) (S : List Int) (N : Nat) (SM : Nat → Int) (cnt : Nat) (e : Ending) (w' : World) : Prop :=
  ∃ a c Q, e = .returned (.tuple #[.slice a S.length c, .slice (some ⟨Q, 0, none⟩) N N, .int .i64 cnt]) ∧ Fr w.heap.size w w' [(Q, wcells SM N)] [] [⟨3, .slice a S.length c, S.length, S.map (Value.int .i64)⟩] []
theorem results_ccs {fn : Func} {p q u : Tmp} {ty tz : TypeId} (h : fn.results = #[.cell p ty, .cell q tz, .tmp u]) (tmps : Array Value) (P : Program) (w : World) :
    (results fn tmps).run P w = ((asAddr (tmps.getD p undef)).run P w).andThen fun a w₁ => ((loadVar ty a).run P w₁).andThen fun v w₂ => ((asAddr (tmps.getD q undef)).run P w₂).andThen fun b w₃ => ((loadVar tz b).run P w₃).andThen fun v2 w₄ => .ok (.tuple #[v, v2, tmps.getD u undef]) w₄ := by
  simp only [results, h]
  simp [Sem.run_bind, Result.andThen]

attribute [local go_sem] Oper.semAt_some
set_option maxRecDepth 100000 in
set_option maxHeartbeats 4000000 in
theorem sums_any (a b a2 : Option Addr) (c d c2 : Nat) (xs ys axes : List Int) (w : World) (h : Ints .i64 w w.heap.size a xs) (h2 : Ints .i64 w w.heap.size b ys) (h3 : Ints .i64 w w.heap.size a2 axes) (ht : tenB xs ys = true) :
    Calls Try.prog 44 #[.agg #[.slice a xs.length c, .slice b ys.length d], .slice a2 axes.length c2] w (RetSums w (restL xs axes) (prodI (restL xs axes)).toNat (fun k => sumK (fun n => (intoI xs axes n).toNat) ys k ys.length) (ys.length / (prodI (restL xs axes)).toNat)) := by
  have H0 := Lib.hid h
  have H1 := Lib.hid h2
  have H2 := Lib.hid h3
  have lT := tenB_iff.1 ht
  have hg := lT.1
  have hlen := lT.2.1
  have hx4 := (goodB_iff.1 hg).1
  have hP := goodB_prod hg
  have hgS := restL_good (axes := axes) hg
  have hPS := goodB_prod hgS
  obtain ⟨N, hN⟩ : ∃ N : Nat, prodI (restL xs axes) = N := ⟨(prodI (restL xs axes)).toNat, by omega⟩
  rw [hN, Int.toNat_natCast]
  have hN1 : 1 ≤ N := by omega
  have hN2 : N ≤ 65536 := by omega
  have hib := fun n : Int => into_bound axes n hg
  rw [hN] at hib
  obtain ⟨G, hG⟩ : ∃ G : Nat → Nat, (fun n : Nat => (intoI xs axes n).toNat) = G := ⟨_, rfl⟩
  have hGI : ∀ n : Nat, intoI xs axes n = (G n : Int) ∧ G n < N := fun n => by
    have := hib n
    rw [← hG]
    exact ⟨by show _ = ((intoI xs axes n).toNat : Int); omega, by show (intoI xs axes n).toNat < N; omega⟩
  rw [hG]
  have hwd : ∀ y ∈ ys, y.natAbs ≤ 140737488355328 := fun y hy => by have := isW_iff.1 (lT.2.2 y hy); omega
  have hsb := fun k n => sumK_bound G hwd k n
  have hnl : ys.length ≤ 65536 := by omega
  have hwl : ∀ x ∈ restL xs axes, (Lit.int .i64 x).wf = true := wf_dims (fun x hx => by have := goodB_dims hgS x hx; omega)
  have hwx := h.wf
  obtain ⟨M, hM⟩ : ∃ M, ys.length = M := ⟨_, rfl⟩
  have hMx : prodI xs = (M : Int) := by omega
  have HG := Lib.hid hg
  have HGS := Lib.hid hgS
  have HN := Lib.hid hN
  have HGI := Lib.hid hGI
  have HWD := Lib.hid hwd
  have HSB := Lib.hid hsb
  have HWL := Lib.hid hwl
  have HWX := Lib.hid hwx
  have HM := Lib.hid hM
  have HMX := Lib.hid hMx
  have hm3 := h3.len
  have hM2 : M ≤ 65536 := by omega
  obtain ⟨S, hS⟩ : ∃ S, restL xs axes = S := ⟨_, rfl⟩
  rw [hS] at HGS HN HWL ⊢
  have HS := Lib.hid hS
  have hSl : S.length ≤ 4 := by rw [← hS]; have := restL_len xs axes; omega
  clear h h2 h3 ht lT hg hlen hP hgS hPS hN hib hG hGI hwd hsb hwl hwx hM hMx hS hnl
  refine (callsIn_wide (n := 20)).1 ?_
  refine callsIn_of_wp_marks Try.func44 rfl trivial ?_ rfl
  simp only [Try.ntmps44, List.size_toArray, List.length_cons, List.length_nil, Nat.reduceAdd, Nat.reduceSub, Array.replicate_succ, Array.replicate_zero, List.push_toArray, List.append_toArray, List.nil_append, List.cons_append]
  refine wpIn_wide.2 ?_
  have F1 := Lib.hid (((((Fr.start (w := w) (I := [(.i64, a, xs), (.i64, b, ys), (.i64, a2, axes)]) (by intro z hz; simp at hz; rcases hz with rfl | rfl | rfl; exact H0.out; exact H1.out; exact H2.out)).box1 (b := w.heap.size) (by simp) [.slice a xs.length c, .slice b ys.length d] 26).box1 (b := w.heap.size + 1) (by simp) [.slice a2 axes.length c2] 23).box1 (b := w.heap.size + 1 + 1) (by simp) [.slice none 0 0] 23).box1 (b := w.heap.size + 1 + 1 + 1) (by simp) [.slice none 0 0] 91)
  simp only [List.nil_append, List.cons_append] at F1
  go_upto_region 1 with fail
  obtain ⟨W1, hW1⟩ : ∃ W1, ((((w.alloc (.cells #[.slice a xs.length c, .slice b ys.length d] 26)).alloc (.cells #[.slice a2 axes.length c2] 23)).alloc (.cells #[.slice none 0 0] 23)).alloc (.cells #[.slice none 0 0] 91)) = W1 := ⟨_, rfl⟩
  rw [hW1] at F1 ⊢
  clear hW1
  have c0_0 := F1.out.c 0 0 rfl rfl
  have c0_1 := F1.out.c 0 1 rfl rfl
  have c1_0 := F1.out.c 1 0 rfl rfl
  go_upto_region 2 with (go_at_call 40; refine (rest_any a a2 c c2 xs axes _ (F1.out.lw 0 rfl) (F1.out.lw 2 rfl) (by omega)).mono ?_; rintro e w2 ⟨v, rfl, hown, hb⟩; rw [HS.out] at hown; obtain ⟨as_, cs_, rfl, _⟩ := own_shape hown; have F2 := Lib.hid (F1.out.addO hb hown); simp only [List.nil_append] at F2; clear hown hb F1 c0_0 c0_1 c1_0; have d2_0 := F2.out.c 2 0 rfl rfl; have df2_0 := F2.out.f 2 0 rfl rfl)
  have F3 := Lib.hid (F2.out.set 2 rfl (by simp) [.slice as_ S.length cs_] rfl)
  simp only [setL, Nat.reduceAdd, List.set_cons_zero, List.set_cons_succ] at F3
  obtain ⟨W3, hW3⟩ : ∃ x, w2.setCell ⟨w.heap.size + 1 + 1, 0, none⟩ (.slice as_ S.length cs_) = x := ⟨_, rfl⟩
  rw [hW3] at F3 ⊢
  clear hW3 F2 d2_0 df2_0
  have c0_0 := F3.out.c 0 0 rfl rfl
  have c0_1 := F3.out.c 0 1 rfl rfl
  have c2_0 := F3.out.c 2 0 rfl rfl
  have hsz : W3.heap.size = W3.heap.size := rfl
  obtain ⟨Q, hQ⟩ : ∃ Q, W3.heap.size = Q := ⟨_, rfl⟩
  have F4 := Lib.hid (F3.out.box1 (b := Q) hQ (wcells (fun _ => 0) N) 77)
  have e4 : (wcells (fun _ => 0) N).toArray = madeCells (Value.agg #[.int .i64 0, .int .u64 0]).cells (N * 2) := by rw [← made_wide]
  rw [e4] at F4
  simp only [List.nil_append, List.cons_append] at F4
  have f3 := F4.out.f 3 0 rfl rfl
  have y3 := F4.out.c 3 0 rfl rfl
  clear e4 hsz
  obtain ⟨W4, hW4⟩ : ∃ x, W3.alloc (.cells (madeCells (Value.agg #[.int .i64 0, .int .u64 0]).cells (N * 2)) 77) = x := ⟨_, rfl⟩
  rw [hW4] at F4 f3 y3
  have HW4 := Lib.hid hW4
  clear hW4
  go_upto_region 3 with (first | (go_at_call 58; refine (size_any as_ cs_ _ S W3 (F3.out.li 0 (k := .i64) (xs := S) rfl HWL.out) HGS.out).mono ?_; rintro e w' ⟨rfl, rfl⟩; rw [HN.out]) | ((at_make; (refine wpl_makeC 91 77 (.agg #[.int .i64 0, .int .u64 0]) 2 16 (by omega) infoWide Try.underlying91 N _ _ _ _ rfl rfl rfl rfl rfl rfl (by omega) ?_)); rw [HW4.out, hQ]) | fail)
  clear F3 HW4 hQ c0_0 c0_1 c2_0
  have F5 := Lib.hid (F4.out.set 3 rfl (by simp) [.slice (some ⟨Q, 0, none⟩) N N] rfl)
  simp only [setL, Nat.reduceAdd, List.set_cons_zero, List.set_cons_succ] at F5
  obtain ⟨W5, hW5⟩ : ∃ x, W4.setCell ⟨w.heap.size + 1 + 1 + 1, 0, none⟩ (.slice (some ⟨Q, 0, none⟩) N N) = x := ⟨_, rfl⟩
  rw [hW5] at F5 ⊢
  clear hW5 F4 f3 y3
  have c0_0 := F5.out.c 0 0 rfl rfl
  have c0_1 := F5.out.c 0 1 rfl rfl
  go_upto_block 0 with (go_at_call 41; refine (all_any a c xs W5 (F5.out.lw 0 rfl) (by omega)).mono ?_; rintro e w6 ⟨ap, cp, rfl, hfr⟩; have F6 := Lib.hid (F5.out.join2 hfr); simp only [List.nil_append, List.cons_append, List.append_nil] at F6; clear hfr F5 c0_0 c0_1)
  obtain ⟨P, hP⟩ : ∃ P, W5.heap.size = P := ⟨_, rfl⟩
  rw [hP] at F6 ⊢
  clear hP
  obtain ⟨D, hD⟩ : ∃ D, w6.heap.size = D := ⟨_, rfl⟩
  go_wp2
  refine wpIn_wide.1 (wpIn_rangeFunc_any (n := 20) rfl (by omega) (gf := 71) (lb := #[.pointer (some ⟨P, 0, none⟩)]) rfl trivial (enters_of Try.func71 (by kernel_rfl) rfl) D hD
    (fun W2 => ∃ o, Hid (Fr w.heap.size w W2 [(w.heap.size, [.slice a xs.length c, .slice b ys.length d]), (w.heap.size + 1, [.slice a2 axes.length c2]), (w.heap.size + 1 + 1, [.slice as_ S.length cs_]), (w.heap.size + 1 + 1 + 1, [.slice (some ⟨Q, 0, none⟩) N N]), (Q, wcells (fun j => sumK G ys j M) N), (P, [.slice ap xs.length cp])] [(.i64, a, xs), (.i64, b, ys), (.i64, a2, axes)] [⟨3, .slice as_ S.length cs_, S.length, S.map (Value.int .i64)⟩, ⟨3, .slice ap xs.length cp, xs.length, xs.map (Value.int .i64)⟩] [(D, .deferred (some [])), (D + 1, o)])) (fun _ _ => False) ?hcall ?hdone ?hstop)
  case hstop =>
    intro cc W2 o ho hf
    exact hf.elim
  case hcall =>
    intro fn R hfn hR
    have HR := Lib.hid hR
    clear hR
    have F7 := Lib.hid ((F6.out.recM hD (.deferred (some [])) rfl).recM (b := D + 1) (by simp [hD]) (.loop (R .ready none)) rfl)
    simp only [List.nil_append, List.cons_append] at F7
    obtain ⟨W7, hW7⟩ : ∃ W7, ((w6.alloc (.deferred (some []))).alloc (.loop (R .ready none))) = W7 := ⟨_, rfl⟩
    rw [hW7] at F7 ⊢
    clear hW7 F6
    have H7 : Hid (Fr w.heap.size w W7 [(w.heap.size, [.slice a xs.length c, .slice b ys.length d]), (w.heap.size + 1, [.slice a2 axes.length c2]), (w.heap.size + 1 + 1, [.slice as_ S.length cs_]), (w.heap.size + 1 + 1 + 1, [.slice (some ⟨Q, 0, none⟩) N N]), (Q, wcells (fun j => sumK G ys j 0) N), (P, [.slice ap xs.length cp])] [(.i64, a, xs), (.i64, b, ys), (.i64, a2, axes)] [⟨3, .slice as_ S.length cs_, S.length, S.map (Value.int .i64)⟩, ⟨3, .slice ap xs.length cp, xs.length, xs.map (Value.int .i64)⟩] [(D, .deferred (some [])), (D + 1, .loop (R .ready none))]) := F7
    clear F7
    refine (allIter 19 (by omega) (D + 1) P M ap cp xs W7 (fun k V => Fr w.heap.size w V [(w.heap.size, [.slice a xs.length c, .slice b ys.length d]), (w.heap.size + 1, [.slice a2 axes.length c2]), (w.heap.size + 1 + 1, [.slice as_ S.length cs_]), (w.heap.size + 1 + 1 + 1, [.slice (some ⟨Q, 0, none⟩) N N]), (Q, wcells (fun j => sumK G ys j k) N), (P, [.slice ap xs.length cp])] [(.i64, a, xs), (.i64, b, ys), (.i64, a2, axes)] [⟨3, .slice as_ S.length cs_, S.length, S.map (Value.int .i64)⟩, ⟨3, .slice ap xs.length cp, xs.length, xs.map (Value.int .i64)⟩] [(D, .deferred (some [])), (D + 1, .loop (R .ready none))]) (fun _ => False) HG.out HMX.out (fun k W1 W2 h hb => h.next hb) (fun k V h => ⟨h.c 5 0 rfl rfl, h.li 1 (k := .i64) (xs := xs) rfl HWX.out⟩) ?hY H7.out).mono ?post
    case post =>
      rintro e V ⟨hv, h | h⟩
      · exact ⟨hv, .inl ⟨⟨_, Lib.hid h⟩, h.m 1 rfl⟩⟩
      · exact h.elim
    case hY =>
      rintro k a1 c1 V1 hk hj hI1
      refine yieldAt_roundR hfn HR.out (hj.m 1 rfl) rfl ?_
      have G1 := Lib.hid (hj.putM 1 rfl (.loop (R .busy none)) rfl)
      simp only [List.set_cons_zero, List.set_cons_succ] at G1
      have HI := Lib.hid (hI1.putObj (hj.m 1 rfl) rfl (.loop (R .busy none)))
      have hszV : (V1.putObj (D + 1) (.loop (R .busy none))).heap.size = V1.heap.size := by simp
      have HJ := Lib.hid hj
      clear hj hI1 hfn H7
      gi_wp2
      refine ⟨HJ.out.m 1 rfl, ?_⟩
      obtain ⟨V, hV⟩ : ∃ V, V1.putObj (D + 1) (.loop (R .busy none)) = V := ⟨_, rfl⟩
      rw [hV] at G1 HI hszV ⊢
      rw [← hszV] at HI
      clear hV hszV HJ
      obtain ⟨hgi, hgn⟩ := HGI.out k
      obtain ⟨g, hg⟩ : ∃ g, G k = g := ⟨_, rfl⟩
      rw [hg] at hgi hgn
      have HGK := Lib.hid hg
      clear hg
      have hsl := standsI_length xs (k : Int)
      have hswf : ∀ x ∈ standsI xs (k : Int), (Lit.int .i64 x).wf = true := wf_stands (goodB_dims HG.out)
      have hplc : placeI S (restL (standsI xs (k : Int)) axes) = (g : Int) := by rw [← hgi, ← HS.out]; rfl
      have hwin : withinB S (restL (standsI xs (k : Int)) axes) = true := by rw [← HS.out]; exact restL_within (standsI_within xs (k : Int) (goodB_dims HG.out))
      obtain ⟨IL, hIL⟩ : ∃ l, standsI xs (k : Int) = l := ⟨_, rfl⟩
      rw [hIL] at hsl hswf hplc hwin HI
      obtain ⟨RL, hRL⟩ : ∃ l, restL IL axes = l := ⟨_, rfl⟩
      have hre := fun W (h : Ints .i64 W W.heap.size a1 IL) (h2 : Ints .i64 W W.heap.size a2 axes) => rest_any a1 a2 c1 c2 IL axes W h h2 (by omega)
      rw [hsl] at hre
      rw [hRL] at hplc hwin hre
      have hrwf : ∀ x ∈ RL, (Lit.int .i64 x).wf = true := fun x hx => hswf x (restL_mem (hRL ▸ hx))
      have HRWF := Lib.hid hrwf
      have HRE := Lib.hid hre
      have HPLC := Lib.hid hplc
      have HWIN := Lib.hid hwin
      clear hgi hsl hswf hplc hwin hIL hRL hre hrwf
      skip
      (repeat gi_step)
      refine wpIn_region_parts2 (w := V) 6 0 none [] [(fun u _ => u = .slice as_ S.length cs_), (fun u _ => u = .slice a1 xs.length c1), (fun u _ => u = .slice a2 axes.length c2), ((IsRow V.heap.size 3 RL.length (RL.map (Value.int .i64)))), (fun u _ => u = .int .i64 (g : Int)), (fun u _ => u = .int .i64 (g : Int))] [some 22, some 23, some 24, some 25, some 26, some 9] #[true, true, true, true, true, true] #[true, true, true, true, true, true] (by kernel_rfl) rfl (by kernel_rfl) (by kernel_rfl) rfl (by kernel_rfl) (by kernel_rfl) (.cons (carries_eq _) (.cons (carries_eq _) (.cons (carries_eq _) (.cons (isRow_carries _ _ _ _) (.cons (carries_eq _) (.cons (carries_eq _) .nil)))))) (fun vs b hvl hvb => ?_)
      obtain ⟨x0, x1, x2, x3, x4, x5, rfl⟩ : ∃ x0 x1 x2 x3 x4 x5, vs = [x0, x1, x2, x3, x4, x5] := lst6 hvl
      clear hvl
      simp only [putAll, Act.put, List.setIfInBounds_toArray, List.set_cons_zero, List.set_cons_succ] at hvb
      subst hvb
      refine ⟨(.snoc (.snoc (.snoc (.snoc (.snoc (.snoc .zero (PartObIn.intro (d := (some 22)) (r := fun u _ => u = .slice as_ S.length cs_) rfl rfl rfl rfl ?po6x0)) (PartObIn.intro (d := (some 23)) (r := fun u _ => u = .slice a1 xs.length c1) rfl rfl rfl rfl ?po6x1)) (PartObIn.intro (d := (some 24)) (r := fun u _ => u = .slice a2 axes.length c2) rfl rfl rfl rfl ?po6x2)) (PartObIn.intro (d := (some 25)) (r := (IsRow V.heap.size 3 RL.length (RL.map (Value.int .i64)))) rfl rfl rfl rfl ?po6x3)) (PartObIn.intro (d := (some 26)) (r := fun u _ => u = .int .i64 (g : Int)) rfl rfl rfl rfl ?po6x4)) (PartObIn.intro (d := (some 9)) (r := fun u _ => u = .int .i64 (g : Int)) rfl rfl rfl rfl ?po6x5)), ?pend6, ?pfl6⟩
      case po6x0 =>
        intro w1 hb1 hd KK hK
        clear hd
        have hF := G1.out.next hb1
        have k0 := hF.c 2 0 rfl rfl
        simp only [Act.put, List.setIfInBounds_toArray, List.set_cons_zero, List.set_cons_succ] at hK
        go_simp
        first | exact hK.out _ _ (Below.refl _ _) rfl | (have hk := hK.out _ _ (Below.refl _ _) rfl; revert hk; go_simp)
      case po6x1 =>
        intro w1 hb1 hd KK hK
        clear hd
        simp only [Act.put, List.setIfInBounds_toArray, List.set_cons_zero, List.set_cons_succ] at hK
        go_simp
        first | exact hK.out _ _ (Below.refl _ _) rfl | (have hk := hK.out _ _ (Below.refl _ _) rfl; revert hk; go_simp)
      case po6x2 =>
        intro w1 hb1 hd KK hK
        clear hd
        have hF := G1.out.next hb1
        have k0 := hF.c 1 0 rfl rfl
        simp only [Act.put, List.setIfInBounds_toArray, List.set_cons_zero, List.set_cons_succ] at hK
        go_simp
        first | exact hK.out _ _ (Below.refl _ _) rfl | (have hk := hK.out _ _ (Below.refl _ _) rfl; revert hk; go_simp)
      case po6x3 =>
        intro w1 hb1 hd KK hK
        have d1 : x1 = .slice a1 xs.length c1 := hd 1 (by kernel_rfl)
        have d2 : x2 = .slice a2 axes.length c2 := hd 2 (by kernel_rfl)
        clear hd
        subst d1
        subst d2
        simp only [Act.put, List.setIfInBounds_toArray, List.set_cons_zero, List.set_cons_succ] at hK
        go_simp
        (repeat gi_step)
        refine ⟨trivial, ?_⟩
        refine ((CallsIn.inRound (D + 1) (callsIn_wide.2 (HRE.out w1 ((HI.out.below hb1 (Nat.le_refl _)).mono hb1.size) ((G1.out.next hb1).lw 2 rfl)) : CallsIn Fence.wide 17 _ _ _ _ _))).mono ?_
        rintro e w2 ⟨v, rfl, hown, hb⟩
        obtain ⟨a2_, c2_, rfl, _⟩ := own_shape hown
        (try gi_wp2_with fail)
        first | exact hK.out _ _ hb ⟨a2_, c2_, rfl, own_mono hown hb1.size⟩ | (have hk := hK.out _ _ hb ⟨a2_, c2_, rfl, own_mono hown hb1.size⟩; revert hk; go_simp)
      case po6x4 =>
        intro w1 hb1 hd KK hK
        have d0 : x0 = .slice as_ S.length cs_ := hd 0 (by kernel_rfl)
        have d3 : (IsRow V.heap.size 3 RL.length (RL.map (Value.int .i64))) x3 w1 := hd 3 (by kernel_rfl)
        clear hd
        subst d0
        obtain ⟨a3x, c3x, rfl, hO3⟩ := d3
        simp only [Act.put, List.setIfInBounds_toArray, List.set_cons_zero, List.set_cons_succ] at hK
        go_simp
        (repeat gi_step)
        refine ⟨trivial, ?_⟩
        refine ((CallsIn.inRound (D + 1) (callsIn_wide.2 (place_any as_ a3x cs_ c3x w1.heap.size S RL w1 ((G1.out.next hb1).li 0 (k := .i64) (xs := S) rfl HWL.out) (ints_row hO3 rfl HRWF.out) HGS.out HWIN.out) : CallsIn Fence.wide 17 _ _ _ _ _))).mono ?_
        rintro e w2 ⟨rfl, rfl⟩
        rw [HPLC.out]
        (try gi_wp2_with fail)
        first | exact hK.out _ _ (Below.refl _ _) rfl | (have hk := hK.out _ _ (Below.refl _ _) rfl; revert hk; go_simp)
      case po6x5 =>
        intro w1 hb1 hd KK hK
        have d0 : x0 = .slice as_ S.length cs_ := hd 0 (by kernel_rfl)
        have d1 : x1 = .slice a1 xs.length c1 := hd 1 (by kernel_rfl)
        have d2 : x2 = .slice a2 axes.length c2 := hd 2 (by kernel_rfl)
        have d3 : (IsRow V.heap.size 3 RL.length (RL.map (Value.int .i64))) x3 w1 := hd 3 (by kernel_rfl)
        have d4 : x4 = .int .i64 (g : Int) := hd 4 (by kernel_rfl)
        clear hd
        subst d0
        subst d1
        subst d2
        obtain ⟨a3x, c3x, rfl, hO3⟩ := d3
        subst d4
        simp only [Act.put, List.setIfInBounds_toArray, List.set_cons_zero, List.set_cons_succ] at hK
        go_simp
        first | exact hK.out _ _ (Below.refl _ _) rfl | (have hk := hK.out _ _ (Below.refl _ _) rfl; revert hk; go_simp)
      case pfl6 => (intro f hf; cases hf)
      case pend6 =>
      intro w1 hb1 hR hD
      have d0 : x0 = .slice as_ S.length cs_ := hR 0 (by decide)
      have d1 : x1 = .slice a1 xs.length c1 := hR 1 (by decide)
      have d2 : x2 = .slice a2 axes.length c2 := hR 2 (by decide)
      have d3 : (IsRow V.heap.size 3 RL.length (RL.map (Value.int .i64))) x3 w1 := hR 3 (by decide)
      have d4 : x4 = .int .i64 (g : Int) := hR 4 (by decide)
      have d5 : x5 = .int .i64 (g : Int) := hR 5 (by decide)
      clear hR hD
      subst d0
      subst d1
      subst d2
      obtain ⟨a3x, c3x, rfl, hO3⟩ := d3
      subst d4
      subst d5
      refine wpAnyIn_done (by kernel_rfl) ?_ _
      have G2 := Lib.hid (G1.out.next hb1)
      clear G1 hO3 HI
      obtain ⟨V2, rfl⟩ : ∃ x : World, x = w1 := ⟨_, rfl⟩
      have hkl : k < ys.length := by rw [HM.out]; exact hk
      obtain ⟨gy, oy, rfl, hlb, hcd⟩ := (G2.out.l 1 rfl).cell k hkl
      have hyb : (ys[k]?.getD 0).natAbs ≤ 140737488355328 := by rw [List.getElem?_eq_getElem hkl]; exact HWD.out _ (List.getElem_mem hkl)
      have hsc : sumK G ys g (k + 1) = sumK G ys g k + ys[k]?.getD 0 := by rw [← HGK.out]; exact sumK_at
      have hs0 := HSB.out g k
      have hs1 := HSB.out g (k + 1)
      have hst := wcells_set (S := fun j => sumK G ys j k) (T := fun j => sumK G ys j (k + 1)) g N hgn (fun j hj hne => sumK_ne (by rw [HGK.out]; exact fun h => hne h.symm))
      have hw0 := wcells_hi (fun j => sumK G ys j k) N g hgn
      have hw1 := wcells_lo (fun j => sumK G ys j k) N g hgn
      (try dsimp only at hst)
      (try dsimp only at hw0)
      (try dsimp only at hw1)
      rw [hsc] at hst hs1
      obtain ⟨s0, hs⟩ : ∃ x, sumK G ys g k = x := ⟨_, rfl⟩
      obtain ⟨y, hy⟩ : ∃ x, ys[k]?.getD 0 = x := ⟨_, rfl⟩
      rw [hs] at hst hs0 hs1 hw0 hw1
      rw [hy] at hst hs1 hcd hyb
      have hkb : (k + 1) * 140737488355328 ≤ 65536 * 140737488355328 := Nat.mul_le_mul_right _ (by omega)
      have hkb0 : k * 140737488355328 ≤ 65536 * 140737488355328 := Nat.mul_le_mul_right _ (by omega)
      have hvf := V_from (y := y) (by omega) (by omega)
      have hin : inR s0 := by unfold inR; omega
      have hin1 : inR (s0 + y) := by unfold inR; omega
      have hfr := fun W => from_any y W (by omega) (by omega)
      have had := fun W => add_in (s0 / 18446744073709551616) (s0 % 18446744073709551616) (y / 9223372036854775808) (y % 18446744073709551616) W (WR_split hin) hvf.2 (by rw [V_split, hvf.1]; exact hin1)
      rw [V_split, hvf.1] at had
      have HFR := Lib.hid hfr
      have HAD := Lib.hid had
      have HST := Lib.hid hst
      have HW0 := Lib.hid hw0
      have HW1 := Lib.hid hw1
      have HCD := Lib.hid hcd
      have hwl := wcells_len (fun j => sumK G ys j k) N
      have HWLN := Lib.hid hwl
      have hgi : (g : Int) < (N : Int) := by omega
      have hki : (k : Int) < (ys.length : Int) := by omega
      have HY := Lib.hid hy
      clear hyb hsc hs0 hs1 hst hw0 hw1 hs hy hkb hkb0 hvf hin hin1 hfr had hcd hwl
      (repeat gi_step)
      refine wpIn_region_inv (w := V2) 18 (fun _ _ => True) (fun k9 W => (k9 = 0 → Fr w.heap.size w W [(w.heap.size, [.slice a xs.length c, .slice (some ⟨gy, oy, none⟩) ys.length d]), (w.heap.size + 1, [.slice a2 axes.length c2]), (w.heap.size + 1 + 1, [.slice as_ S.length cs_]), (w.heap.size + 1 + 1 + 1, [.slice (some ⟨Q, 0, none⟩) N N]), (Q, wcells (fun j => sumK G ys j k) N), (P, [.slice ap xs.length cp])] [(.i64, a, xs), (.i64, (some ⟨gy, oy, none⟩), ys), (.i64, a2, axes)] [⟨3, .slice as_ S.length cs_, S.length, S.map (Value.int .i64)⟩, ⟨3, .slice ap xs.length cp, xs.length, xs.map (Value.int .i64)⟩] [(D, .deferred (some [])), (D + 1, .loop (R .busy none))]) ∧ (k9 ≠ 0 → Fr w.heap.size w W [(w.heap.size, [.slice a xs.length c, .slice (some ⟨gy, oy, none⟩) ys.length d]), (w.heap.size + 1, [.slice a2 axes.length c2]), (w.heap.size + 1 + 1, [.slice as_ S.length cs_]), (w.heap.size + 1 + 1 + 1, [.slice (some ⟨Q, 0, none⟩) N N]), (Q, wcells (fun j => sumK G ys j (k + 1)) N), (P, [.slice ap xs.length cp])] [(.i64, a, xs), (.i64, (some ⟨gy, oy, none⟩), ys), (.i64, a2, axes)] [⟨3, .slice as_ S.length cs_, S.length, S.map (Value.int .i64)⟩, ⟨3, .slice ap xs.length cp, xs.length, xs.map (Value.int .i64)⟩] [(D, .deferred (some [])), (D + 1, .loop (R .busy none))])) [17] [(fun u _ => u = .slice (some ⟨Q, 0, none⟩) N N), (fun u _ => u = .int .i64 (g : Int)), (fun u _ => u = .slice (some ⟨Q, 0, none⟩) N N), (fun u _ => u = .int .i64 (g : Int)), (fun u _ => u = .pointer (some ⟨Q, g * 2, none⟩)), (fun u _ => u = .agg #[.int .i64 (s0 / 18446744073709551616), .int .u64 (s0 % 18446744073709551616)]), (fun u _ => u = .pointer (some ⟨w.heap.size, 1, none⟩)), (fun u _ => u = .slice (some ⟨gy, oy, none⟩) ys.length d), (fun u _ => u = .int .i64 (k : Int)), (fun u _ => u = .pointer (some ⟨gy, oy + k, none⟩)), (fun u _ => u = .int .i64 y), (fun u _ => u = .agg #[.int .i64 (y / 9223372036854775808), .int .u64 (y % 18446744073709551616)]), (fun u _ => u = .tuple #[.agg #[.int .i64 ((s0 + y) / 18446744073709551616), .int .u64 ((s0 + y) % 18446744073709551616)], .int .i64 0]), (fun u _ => u = .tuple #[.agg #[.int .i64 ((s0 + y) / 18446744073709551616), .int .u64 ((s0 + y) % 18446744073709551616)], .int .i64 0]), (fun u _ => u = .agg #[.int .i64 ((s0 + y) / 18446744073709551616), .int .u64 ((s0 + y) % 18446744073709551616)]), (fun u _ => u = .int .i64 0), (fun u _ => u = .pointer (some ⟨Q, g * 2, none⟩)), (fun _ _ => True)] [some 28, some 29, some 30, some 31, some 32, some 33, some 34, some 35, some 36, some 37, some 38, some 39, some 40, some 27, some 41, some 42, some 43, none] (by kernel_rfl) (by kernel_rfl) rfl (by kernel_rfl) (by kernel_rfl) (by decide) (by decide) (fun _ _ => trivial) trivial ⟨fun _ => G2.out.drew, fun h => absurd rfl h⟩ (BorneAll.at (.cons (borne_eq _) (.cons (borne_eq _) (.cons (borne_eq _) (.cons (borne_eq _) (.cons (borne_eq _) (.cons (borne_eq _) (.cons (borne_eq _) (.cons (borne_eq _) (.cons (borne_eq _) (.cons (borne_eq _) (.cons (borne_eq _) (.cons (borne_eq _) (.cons (borne_eq _) (.cons (borne_eq _) (.cons (borne_eq _) (.cons (borne_eq _) (.cons (borne_eq _) (.cons (fun _ _ _ _ _ => trivial) .nil))))))))))))))))))) (fun vs b hvl hvb => ?_)
      obtain ⟨x0, x1, x2, x3, x4, x5, x6, x7, x8, x9, x10, x11, x12, x13, x14, x15, x16, x17, rfl⟩ : ∃ x0 x1 x2 x3 x4 x5 x6 x7 x8 x9 x10 x11 x12 x13 x14 x15 x16 x17, vs = [x0, x1, x2, x3, x4, x5, x6, x7, x8, x9, x10, x11, x12, x13, x14, x15, x16, x17] := lst18 hvl
      clear hvl
      simp only [putAll, Act.put, List.setIfInBounds_toArray, List.set_cons_zero, List.set_cons_succ] at hvb
      subst hvb
      refine ⟨(.snoc (.snoc (.snoc (.snoc (.snoc (.snoc (.snoc (.snoc (.snoc (.snoc (.snoc (.snoc (.snoc (.snoc (.snoc (.snoc (.snoc (.snoc .zero (InvObIn.intro (d := (some 28)) (r := fun u _ => u = .slice (some ⟨Q, 0, none⟩) N N) 0 0 rfl rfl rfl (by kernel_rfl) (by kernel_rfl) rfl ?io7x0)) (InvObIn.intro (d := (some 29)) (r := fun u _ => u = .int .i64 (g : Int)) 0 0 rfl rfl rfl (by kernel_rfl) (by kernel_rfl) rfl ?io7x1)) (InvObIn.intro (d := (some 30)) (r := fun u _ => u = .slice (some ⟨Q, 0, none⟩) N N) 0 0 rfl rfl rfl (by kernel_rfl) (by kernel_rfl) rfl ?io7x2)) (InvObIn.intro (d := (some 31)) (r := fun u _ => u = .int .i64 (g : Int)) 0 0 rfl rfl rfl (by kernel_rfl) (by kernel_rfl) rfl ?io7x3)) (InvObIn.intro (d := (some 32)) (r := fun u _ => u = .pointer (some ⟨Q, g * 2, none⟩)) 0 0 rfl rfl rfl (by kernel_rfl) (by kernel_rfl) rfl ?io7x4)) (InvObIn.intro (d := (some 33)) (r := fun u _ => u = .agg #[.int .i64 (s0 / 18446744073709551616), .int .u64 (s0 % 18446744073709551616)]) 0 0 rfl rfl rfl (by kernel_rfl) (by kernel_rfl) rfl ?io7x5)) (InvObIn.intro (d := (some 34)) (r := fun u _ => u = .pointer (some ⟨w.heap.size, 1, none⟩)) 0 0 rfl rfl rfl (by kernel_rfl) (by kernel_rfl) rfl ?io7x6)) (InvObIn.intro (d := (some 35)) (r := fun u _ => u = .slice (some ⟨gy, oy, none⟩) ys.length d) 0 0 rfl rfl rfl (by kernel_rfl) (by kernel_rfl) rfl ?io7x7)) (InvObIn.intro (d := (some 36)) (r := fun u _ => u = .int .i64 (k : Int)) 0 0 rfl rfl rfl (by kernel_rfl) (by kernel_rfl) rfl ?io7x8)) (InvObIn.intro (d := (some 37)) (r := fun u _ => u = .pointer (some ⟨gy, oy + k, none⟩)) 0 0 rfl rfl rfl (by kernel_rfl) (by kernel_rfl) rfl ?io7x9)) (InvObIn.intro (d := (some 38)) (r := fun u _ => u = .int .i64 y) 0 0 rfl rfl rfl (by kernel_rfl) (by kernel_rfl) rfl ?io7x10)) (InvObIn.intro (d := (some 39)) (r := fun u _ => u = .agg #[.int .i64 (y / 9223372036854775808), .int .u64 (y % 18446744073709551616)]) 0 0 rfl rfl rfl (by kernel_rfl) (by kernel_rfl) rfl ?io7x11)) (InvObIn.intro (d := (some 40)) (r := fun u _ => u = .tuple #[.agg #[.int .i64 ((s0 + y) / 18446744073709551616), .int .u64 ((s0 + y) % 18446744073709551616)], .int .i64 0]) 0 0 rfl rfl rfl (by kernel_rfl) (by kernel_rfl) rfl ?io7x12)) (InvObIn.intro (d := (some 27)) (r := fun u _ => u = .tuple #[.agg #[.int .i64 ((s0 + y) / 18446744073709551616), .int .u64 ((s0 + y) % 18446744073709551616)], .int .i64 0]) 0 0 rfl rfl rfl (by kernel_rfl) (by kernel_rfl) rfl ?io7x13)) (InvObIn.intro (d := (some 41)) (r := fun u _ => u = .agg #[.int .i64 ((s0 + y) / 18446744073709551616), .int .u64 ((s0 + y) % 18446744073709551616)]) 0 0 rfl rfl rfl (by kernel_rfl) (by kernel_rfl) rfl ?io7x14)) (InvObIn.intro (d := (some 42)) (r := fun u _ => u = .int .i64 0) 0 1 rfl rfl rfl (by kernel_rfl) (by kernel_rfl) rfl ?io7x15)) (InvObIn.intro (d := (some 43)) (r := fun u _ => u = .pointer (some ⟨Q, g * 2, none⟩)) 0 0 rfl rfl rfl (by kernel_rfl) (by kernel_rfl) rfl ?io7x16)) (InvObIn.put (d := none) (r := fun _ _ => True) 0 rfl rfl rfl (by kernel_rfl) (by kernel_rfl) rfl ?io7x17)), ?iend7⟩
      case io7x0 =>
        intro k1 w1 hk0 hk1 hb1 hS hd KK hK
        clear hd
        have hF := hS.1 (by omega)
        have k0 := hF.c 3 0 rfl rfl
        simp only [Act.put, List.setIfInBounds_toArray, List.set_cons_zero, List.set_cons_succ] at hK
        go_simp
        first | exact hK.out _ _ trivial hS rfl | (have hk := hK.out _ _ trivial hS rfl; revert hk; go_simp)
      case io7x1 =>
        intro k1 w1 hk0 hk1 hb1 hS hd KK hK
        clear hd
        simp only [Act.put, List.setIfInBounds_toArray, List.set_cons_zero, List.set_cons_succ] at hK
        go_simp
        first | exact hK.out _ _ trivial hS rfl | (have hk := hK.out _ _ trivial hS rfl; revert hk; go_simp)
      case io7x2 =>
        intro k1 w1 hk0 hk1 hb1 hS hd KK hK
        clear hd
        have hF := hS.1 (by omega)
        have k0 := hF.c 3 0 rfl rfl
        simp only [Act.put, List.setIfInBounds_toArray, List.set_cons_zero, List.set_cons_succ] at hK
        go_simp
        first | exact hK.out _ _ trivial hS rfl | (have hk := hK.out _ _ trivial hS rfl; revert hk; go_simp)
      case io7x3 =>
        intro k1 w1 hk0 hk1 hb1 hS hd KK hK
        clear hd
        simp only [Act.put, List.setIfInBounds_toArray, List.set_cons_zero, List.set_cons_succ] at hK
        go_simp
        first | exact hK.out _ _ trivial hS rfl | (have hk := hK.out _ _ trivial hS rfl; revert hk; go_simp)
      case io7x4 =>
        intro k1 w1 hk0 hk1 hb1 hS hd KK hK
        have d2 : x2 = .slice (some ⟨Q, 0, none⟩) N N := hd 2 (by kernel_rfl)
        have d3 : x3 = .int .i64 (g : Int) := hd 3 (by kernel_rfl)
        clear hd
        subst d2
        subst d3
        simp only [Act.put, List.setIfInBounds_toArray, List.set_cons_zero, List.set_cons_succ] at hK
        go_simp
        first | exact hK.out _ _ trivial hS rfl | (have hk := hK.out _ _ trivial hS rfl; revert hk; go_simp)
      case io7x5 =>
        intro k1 w1 hk0 hk1 hb1 hS hd KK hK
        have d4 : x4 = .pointer (some ⟨Q, g * 2, none⟩) := hd 4 (by kernel_rfl)
        clear hd
        subst d4
        have hF := hS.1 (by omega)
        have q0 := hF.c 4 (g * 2) rfl HW0.out
        have q1 := hF.c 4 (g * 2 + 1) rfl HW1.out
        simp only [Act.put, List.setIfInBounds_toArray, List.set_cons_zero, List.set_cons_succ] at hK
        go_simp
        first | exact hK.out _ _ trivial hS rfl | (have hk := hK.out _ _ trivial hS rfl; revert hk; go_simp)
      case io7x6 =>
        intro k1 w1 hk0 hk1 hb1 hS hd KK hK
        clear hd
        simp only [Act.put, List.setIfInBounds_toArray, List.set_cons_zero, List.set_cons_succ] at hK
        go_simp
        first | exact hK.out _ _ trivial hS rfl | (have hk := hK.out _ _ trivial hS rfl; revert hk; go_simp)
      case io7x7 =>
        intro k1 w1 hk0 hk1 hb1 hS hd KK hK
        have d6 : x6 = .pointer (some ⟨w.heap.size, 1, none⟩) := hd 6 (by kernel_rfl)
        clear hd
        subst d6
        have hF := hS.1 (by omega)
        have k1 := hF.c 0 1 rfl rfl
        simp only [Act.put, List.setIfInBounds_toArray, List.set_cons_zero, List.set_cons_succ] at hK
        go_simp
        first | exact hK.out _ _ trivial hS rfl | (have hk := hK.out _ _ trivial hS rfl; revert hk; go_simp)
      case io7x8 =>
        intro k1 w1 hk0 hk1 hb1 hS hd KK hK
        clear hd
        simp only [Act.put, List.setIfInBounds_toArray, List.set_cons_zero, List.set_cons_succ] at hK
        go_simp
        first | exact hK.out _ _ trivial hS rfl | (have hk := hK.out _ _ trivial hS rfl; revert hk; go_simp)
      case io7x9 =>
        intro k1 w1 hk0 hk1 hb1 hS hd KK hK
        have d7 : x7 = .slice (some ⟨gy, oy, none⟩) ys.length d := hd 7 (by kernel_rfl)
        have d8 : x8 = .int .i64 (k : Int) := hd 8 (by kernel_rfl)
        clear hd
        subst d7
        subst d8
        simp only [Act.put, List.setIfInBounds_toArray, List.set_cons_zero, List.set_cons_succ] at hK
        go_simp
        first | exact hK.out _ _ trivial hS rfl | (have hk := hK.out _ _ trivial hS rfl; revert hk; go_simp)
      case io7x10 =>
        intro k1 w1 hk0 hk1 hb1 hS hd KK hK
        have d9 : x9 = .pointer (some ⟨gy, oy + k, none⟩) := hd 9 (by kernel_rfl)
        clear hd
        subst d9
        have hF := hS.1 (by omega)
        obtain ⟨b9, o9, he, hl9, hcx⟩ := (hF.l 1 rfl).cell k hkl
        cases he
        rw [HY.out] at hcx
        simp only [Act.put, List.setIfInBounds_toArray, List.set_cons_zero, List.set_cons_succ] at hK
        go_simp
        first | exact hK.out _ _ trivial hS rfl | (have hk := hK.out _ _ trivial hS rfl; revert hk; go_simp)
      case io7x11 =>
        intro k1 w1 hk0 hk1 hb1 hS hd KK hK
        have d10 : x10 = .int .i64 y := hd 10 (by kernel_rfl)
        clear hd
        subst d10
        simp only [Act.put, List.setIfInBounds_toArray, List.set_cons_zero, List.set_cons_succ] at hK
        go_simp
        (repeat gi_step)
        refine ⟨trivial, ?_⟩
        refine ((CallsIn.inRound (D + 1) (callsIn_wide.2 (HFR.out w1) : CallsIn Fence.wide 17 _ _ _ _ _))).mono ?_
        rintro e w2 ⟨rfl, hb⟩
        (try gi_wp2_with fail)
        first | exact hK.out _ _ trivial ⟨fun h => (hS.1 h).next hb, fun h => (hS.2 h).next hb⟩ rfl | (have hk := hK.out _ _ trivial ⟨fun h => (hS.1 h).next hb, fun h => (hS.2 h).next hb⟩ rfl; revert hk; go_simp)
      case io7x12 =>
        intro k1 w1 hk0 hk1 hb1 hS hd KK hK
        have d5 : x5 = .agg #[.int .i64 (s0 / 18446744073709551616), .int .u64 (s0 % 18446744073709551616)] := hd 5 (by kernel_rfl)
        have d11 : x11 = .agg #[.int .i64 (y / 9223372036854775808), .int .u64 (y % 18446744073709551616)] := hd 11 (by kernel_rfl)
        clear hd
        subst d5
        subst d11
        simp only [Act.put, List.setIfInBounds_toArray, List.set_cons_zero, List.set_cons_succ] at hK
        go_simp
        (repeat gi_step)
        refine ⟨trivial, ?_⟩
        refine ((CallsIn.inRound (D + 1) (callsIn_wide.2 (HAD.out w1) : CallsIn Fence.wide 17 _ _ _ _ _))).mono ?_
        rintro e w2 ⟨rfl, hb⟩
        (try gi_wp2_with fail)
        first | exact hK.out _ _ trivial ⟨fun h => (hS.1 h).next hb, fun h => (hS.2 h).next hb⟩ rfl | (have hk := hK.out _ _ trivial ⟨fun h => (hS.1 h).next hb, fun h => (hS.2 h).next hb⟩ rfl; revert hk; go_simp)
      case io7x13 =>
        intro k1 w1 hk0 hk1 hb1 hS hd KK hK
        have d12 : x12 = .tuple #[.agg #[.int .i64 ((s0 + y) / 18446744073709551616), .int .u64 ((s0 + y) % 18446744073709551616)], .int .i64 0] := hd 12 (by kernel_rfl)
        clear hd
        subst d12
        simp only [Act.put, List.setIfInBounds_toArray, List.set_cons_zero, List.set_cons_succ] at hK
        go_simp
        first | exact hK.out _ _ trivial hS rfl | (have hk := hK.out _ _ trivial hS rfl; revert hk; go_simp)
      case io7x14 =>
        intro k1 w1 hk0 hk1 hb1 hS hd KK hK
        have d13 : x13 = .tuple #[.agg #[.int .i64 ((s0 + y) / 18446744073709551616), .int .u64 ((s0 + y) % 18446744073709551616)], .int .i64 0] := hd 13 (by kernel_rfl)
        clear hd
        subst d13
        simp only [Act.put, List.setIfInBounds_toArray, List.set_cons_zero, List.set_cons_succ] at hK
        go_simp
        first | exact hK.out _ _ trivial hS rfl | (have hk := hK.out _ _ trivial hS rfl; revert hk; go_simp)
      case io7x15 =>
        intro k1 w1 hk0 hk1 hb1 hS hd KK hK
        have d13 : x13 = .tuple #[.agg #[.int .i64 ((s0 + y) / 18446744073709551616), .int .u64 ((s0 + y) % 18446744073709551616)], .int .i64 0] := hd 13 (by kernel_rfl)
        clear hd
        subst d13
        simp only [Act.put, List.setIfInBounds_toArray, List.set_cons_zero, List.set_cons_succ] at hK
        go_simp
        first | exact hK.out _ _ trivial hS rfl | (have hk := hK.out _ _ trivial hS rfl; revert hk; go_simp)
      case io7x16 =>
        intro k1 w1 hk0 hk1 hb1 hS hd KK hK
        have d0 : x0 = .slice (some ⟨Q, 0, none⟩) N N := hd 0 (by kernel_rfl)
        have d1 : x1 = .int .i64 (g : Int) := hd 1 (by kernel_rfl)
        have d2 : x2 = .slice (some ⟨Q, 0, none⟩) N N := hd 2 (by kernel_rfl)
        have d3 : x3 = .int .i64 (g : Int) := hd 3 (by kernel_rfl)
        have d4 : x4 = .pointer (some ⟨Q, g * 2, none⟩) := hd 4 (by kernel_rfl)
        have d5 : x5 = .agg #[.int .i64 (s0 / 18446744073709551616), .int .u64 (s0 % 18446744073709551616)] := hd 5 (by kernel_rfl)
        have d6 : x6 = .pointer (some ⟨w.heap.size, 1, none⟩) := hd 6 (by kernel_rfl)
        have d7 : x7 = .slice (some ⟨gy, oy, none⟩) ys.length d := hd 7 (by kernel_rfl)
        have d8 : x8 = .int .i64 (k : Int) := hd 8 (by kernel_rfl)
        have d9 : x9 = .pointer (some ⟨gy, oy + k, none⟩) := hd 9 (by kernel_rfl)
        have d10 : x10 = .int .i64 y := hd 10 (by kernel_rfl)
        have d11 : x11 = .agg #[.int .i64 (y / 9223372036854775808), .int .u64 (y % 18446744073709551616)] := hd 11 (by kernel_rfl)
        have d12 : x12 = .tuple #[.agg #[.int .i64 ((s0 + y) / 18446744073709551616), .int .u64 ((s0 + y) % 18446744073709551616)], .int .i64 0] := hd 12 (by kernel_rfl)
        have d13 : x13 = .tuple #[.agg #[.int .i64 ((s0 + y) / 18446744073709551616), .int .u64 ((s0 + y) % 18446744073709551616)], .int .i64 0] := hd 13 (by kernel_rfl)
        have d14 : x14 = .agg #[.int .i64 ((s0 + y) / 18446744073709551616), .int .u64 ((s0 + y) % 18446744073709551616)] := hd 14 (by kernel_rfl)
        clear hd
        subst d0
        subst d1
        subst d2
        subst d3
        subst d4
        subst d5
        subst d6
        subst d7
        subst d8
        subst d9
        subst d10
        subst d11
        subst d12
        subst d13
        subst d14
        simp only [Act.put, List.setIfInBounds_toArray, List.set_cons_zero, List.set_cons_succ] at hK
        go_simp
        first | exact hK.out _ _ trivial hS rfl | (have hk := hK.out _ _ trivial hS rfl; revert hk; go_simp)
      case io7x17 =>
        intro w1 hb1 hS hd KK hK
        have d0 : x0 = .slice (some ⟨Q, 0, none⟩) N N := hd 0 (by kernel_rfl)
        have d1 : x1 = .int .i64 (g : Int) := hd 1 (by kernel_rfl)
        have d2 : x2 = .slice (some ⟨Q, 0, none⟩) N N := hd 2 (by kernel_rfl)
        have d3 : x3 = .int .i64 (g : Int) := hd 3 (by kernel_rfl)
        have d4 : x4 = .pointer (some ⟨Q, g * 2, none⟩) := hd 4 (by kernel_rfl)
        have d5 : x5 = .agg #[.int .i64 (s0 / 18446744073709551616), .int .u64 (s0 % 18446744073709551616)] := hd 5 (by kernel_rfl)
        have d6 : x6 = .pointer (some ⟨w.heap.size, 1, none⟩) := hd 6 (by kernel_rfl)
        have d7 : x7 = .slice (some ⟨gy, oy, none⟩) ys.length d := hd 7 (by kernel_rfl)
        have d8 : x8 = .int .i64 (k : Int) := hd 8 (by kernel_rfl)
        have d9 : x9 = .pointer (some ⟨gy, oy + k, none⟩) := hd 9 (by kernel_rfl)
        have d10 : x10 = .int .i64 y := hd 10 (by kernel_rfl)
        have d11 : x11 = .agg #[.int .i64 (y / 9223372036854775808), .int .u64 (y % 18446744073709551616)] := hd 11 (by kernel_rfl)
        have d12 : x12 = .tuple #[.agg #[.int .i64 ((s0 + y) / 18446744073709551616), .int .u64 ((s0 + y) % 18446744073709551616)], .int .i64 0] := hd 12 (by kernel_rfl)
        have d13 : x13 = .tuple #[.agg #[.int .i64 ((s0 + y) / 18446744073709551616), .int .u64 ((s0 + y) % 18446744073709551616)], .int .i64 0] := hd 13 (by kernel_rfl)
        have d14 : x14 = .agg #[.int .i64 ((s0 + y) / 18446744073709551616), .int .u64 ((s0 + y) % 18446744073709551616)] := hd 14 (by kernel_rfl)
        have d16 : x16 = .pointer (some ⟨Q, g * 2, none⟩) := hd 16 (by kernel_rfl)
        clear hd
        subst d0
        subst d1
        subst d2
        subst d3
        subst d4
        subst d5
        subst d6
        subst d7
        subst d8
        subst d9
        subst d10
        subst d11
        subst d12
        subst d13
        subst d14
        subst d16
        have hF := hS.1 rfl
        have q0 := hF.c 4 (g * 2) rfl HW0.out
        have q1 := hF.c 4 (g * 2 + 1) rfl HW1.out
        have qf0 := hF.f 4 (g * 2) rfl HW0.out
        have qf1 := hF.f 4 (g * 2 + 1) rfl HW1.out
        simp only [Act.put, List.setIfInBounds_toArray, List.set_cons_zero, List.set_cons_succ] at hK
        go_simp
        first | exact hK.out undef _ trivial ⟨fun h => absurd h (by decide), fun _ => by have G4 := (hF.setC 4 (g * 2) rfl (by intro h; have h2 := congrArg List.length h; rw [HWLN.out] at h2; simp at h2; omega) (.int .i64 ((s0 + y) / 18446744073709551616))).setC 4 (g * 2 + 1) rfl (by intro h; have h2 := congrArg List.length h; rw [List.length_set, HWLN.out] at h2; simp at h2; omega) (.int .u64 ((s0 + y) % 18446744073709551616)); simp only [List.set_cons_zero, List.set_cons_succ] at G4; rw [HST.out] at G4; exact G4⟩ trivial | (have hk := hK.out undef _ trivial ⟨fun h => absurd h (by decide), fun _ => by have G4 := (hF.setC 4 (g * 2) rfl (by intro h; have h2 := congrArg List.length h; rw [HWLN.out] at h2; simp at h2; omega) (.int .i64 ((s0 + y) / 18446744073709551616))).setC 4 (g * 2 + 1) rfl (by intro h; have h2 := congrArg List.length h; rw [List.length_set, HWLN.out] at h2; simp at h2; omega) (.int .u64 ((s0 + y) % 18446744073709551616)); simp only [List.set_cons_zero, List.set_cons_succ] at G4; rw [HST.out] at G4; exact G4⟩ trivial; revert hk; go_simp)
      case iend7 =>
        intro w1 hb1 hS hR
        have d0 : x0 = .slice (some ⟨Q, 0, none⟩) N N := hR 0 (by decide)
        have d1 : x1 = .int .i64 (g : Int) := hR 1 (by decide)
        have d2 : x2 = .slice (some ⟨Q, 0, none⟩) N N := hR 2 (by decide)
        have d3 : x3 = .int .i64 (g : Int) := hR 3 (by decide)
        have d4 : x4 = .pointer (some ⟨Q, g * 2, none⟩) := hR 4 (by decide)
        have d5 : x5 = .agg #[.int .i64 (s0 / 18446744073709551616), .int .u64 (s0 % 18446744073709551616)] := hR 5 (by decide)
        have d6 : x6 = .pointer (some ⟨w.heap.size, 1, none⟩) := hR 6 (by decide)
        have d7 : x7 = .slice (some ⟨gy, oy, none⟩) ys.length d := hR 7 (by decide)
        have d8 : x8 = .int .i64 (k : Int) := hR 8 (by decide)
        have d9 : x9 = .pointer (some ⟨gy, oy + k, none⟩) := hR 9 (by decide)
        have d10 : x10 = .int .i64 y := hR 10 (by decide)
        have d11 : x11 = .agg #[.int .i64 (y / 9223372036854775808), .int .u64 (y % 18446744073709551616)] := hR 11 (by decide)
        have d12 : x12 = .tuple #[.agg #[.int .i64 ((s0 + y) / 18446744073709551616), .int .u64 ((s0 + y) % 18446744073709551616)], .int .i64 0] := hR 12 (by decide)
        have d13 : x13 = .tuple #[.agg #[.int .i64 ((s0 + y) / 18446744073709551616), .int .u64 ((s0 + y) % 18446744073709551616)], .int .i64 0] := hR 13 (by decide)
        have d14 : x14 = .agg #[.int .i64 ((s0 + y) / 18446744073709551616), .int .u64 ((s0 + y) % 18446744073709551616)] := hR 14 (by decide)
        have d15 : x15 = .int .i64 0 := hR 15 (by decide)
        have d16 : x16 = .pointer (some ⟨Q, g * 2, none⟩) := hR 16 (by decide)
        clear hR
        subst d0
        subst d1
        subst d2
        subst d3
        subst d4
        subst d5
        subst d6
        subst d7
        subst d8
        subst d9
        subst d10
        subst d11
        subst d12
        subst d13
        subst d14
        subst d15
        subst d16
        try simp only [putAll, Act.put, List.setIfInBounds_toArray, List.set_cons_zero, List.set_cons_succ]
        have G4 := Lib.hid (hS.2 (by decide))
        clear hS hb1 G2
        obtain ⟨V4, rfl⟩ : ∃ x : World, x = w1 := ⟨_, rfl⟩
        (repeat gi_step)
        have G5 := G4.out.putM 1 rfl (.loop (R .ready none)) rfl
        simp only [List.set_cons_zero, List.set_cons_succ] at G5
        first | exact ⟨G4.out.m 1 rfl, G5⟩ | exact ⟨G4.out.m 1 rfl, .inl ⟨trivial, G5⟩⟩
  case hdone =>
    rintro V o ho ⟨o2, F8⟩
    have FY := Lib.hid (F8.out.putM 1 rfl o ho)
    simp only [List.set_cons_zero, List.set_cons_succ] at FY
    generalize V.putObj (D + 1) o = V3 at *
    clear F8 F6 hD
    have hNi : ((N : Int) == 0) = false := by simp; omega
    have hNn : ¬ (N : Int) = 0 := by omega
    obtain ⟨cn, hcn⟩ : ∃ q, ys.length / N = q := ⟨_, rfl⟩
    have hquo : IntKind.i64.wrap ((ys.length : Int) / (N : Int)) = (cn : Int) := by
      rw [← Int.natCast_ediv, hcn]
      have h1 := Nat.div_le_self ys.length N
      have h2 := HM.out
      rw [hcn] at h1
      exact IntWalk.i64_in _ (by omega)
    have hNz : ¬ N = 0 := by omega
    have HCN := Lib.hid hcn
    clear hcn
    go_upto_region 8 with fail
    refine wp_region_inv (w := V3) 11 (fun _ _ => True) (fun _ W => Fr w.heap.size w W [(w.heap.size, [.slice a xs.length c, .slice b ys.length d]), (w.heap.size + 1, [.slice a2 axes.length c2]), (w.heap.size + 1 + 1, [.slice as_ S.length cs_]), (w.heap.size + 1 + 1 + 1, [.slice (some ⟨Q, 0, none⟩) N N]), (Q, wcells (fun j => sumK G ys j M) N), (P, [.slice ap xs.length cp])] [(.i64, a, xs), (.i64, b, ys), (.i64, a2, axes)] [⟨3, .slice as_ S.length cs_, S.length, S.map (Value.int .i64)⟩, ⟨3, .slice ap xs.length cp, xs.length, xs.map (Value.int .i64)⟩] [(D, .deferred (some [])), (D + 1, o)]) [8, 9] [(fun u _ => u = .slice as_ S.length cs_), (fun u _ => u = .slice (some ⟨Q, 0, none⟩) N N), (fun u _ => u = .pointer (some ⟨w.heap.size, 1, none⟩)), (fun u _ => u = .slice b ys.length d), (fun u _ => u = .int .i64 (ys.length : Int)), (fun u _ => u = .slice (some ⟨Q, 0, none⟩) N N), (fun u _ => u = .int .i64 (N : Int)), (fun u _ => u = .int .i64 (cn : Int)), (fun _ _ => True), (fun _ _ => True), (fun u _ => u = .int .i64 (cn : Int))] [some 44, some 45, some 46, some 47, some 48, some 49, some 50, some 51, none, none, some 6] (by kernel_rfl) (by kernel_rfl) rfl (by kernel_rfl) (by kernel_rfl) (by decide) (by decide) (fun _ _ => trivial) trivial FY.out.drew (BorneAll.at (.cons (borne_eq _) (.cons (borne_eq _) (.cons (borne_eq _) (.cons (borne_eq _) (.cons (borne_eq _) (.cons (borne_eq _) (.cons (borne_eq _) (.cons (borne_eq _) (.cons (fun _ _ _ _ _ => trivial) (.cons (fun _ _ _ _ _ => trivial) (.cons (borne_eq _) .nil)))))))))))) (fun vs b hvl hvb => ?_)
    obtain ⟨x0, x1, x2, x3, x4, x5, x6, x7, x8, x9, x10, rfl⟩ : ∃ x0 x1 x2 x3 x4 x5 x6 x7 x8 x9 x10, vs = [x0, x1, x2, x3, x4, x5, x6, x7, x8, x9, x10] := lst11 hvl
    clear hvl
    simp only [putAll, Act.put, List.setIfInBounds_toArray, List.set_cons_zero, List.set_cons_succ] at hvb
    subst hvb
    refine ⟨(.snoc (.snoc (.snoc (.snoc (.snoc (.snoc (.snoc (.snoc (.snoc (.snoc (.snoc .zero (InvOb.intro (d := (some 44)) (r := fun u _ => u = .slice as_ S.length cs_) 0 0 rfl rfl rfl (by kernel_rfl) (by kernel_rfl) rfl ?io8x0)) (InvOb.intro (d := (some 45)) (r := fun u _ => u = .slice (some ⟨Q, 0, none⟩) N N) 0 1 rfl rfl rfl (by kernel_rfl) (by kernel_rfl) rfl ?io8x1)) (InvOb.intro (d := (some 46)) (r := fun u _ => u = .pointer (some ⟨w.heap.size, 1, none⟩)) 0 2 rfl rfl rfl (by kernel_rfl) (by kernel_rfl) rfl ?io8x2)) (InvOb.intro (d := (some 47)) (r := fun u _ => u = .slice b ys.length d) 0 2 rfl rfl rfl (by kernel_rfl) (by kernel_rfl) rfl ?io8x3)) (InvOb.intro (d := (some 48)) (r := fun u _ => u = .int .i64 (ys.length : Int)) 0 2 rfl rfl rfl (by kernel_rfl) (by kernel_rfl) rfl ?io8x4)) (InvOb.intro (d := (some 49)) (r := fun u _ => u = .slice (some ⟨Q, 0, none⟩) N N) 0 0 rfl rfl rfl (by kernel_rfl) (by kernel_rfl) rfl ?io8x5)) (InvOb.intro (d := (some 50)) (r := fun u _ => u = .int .i64 (N : Int)) 0 2 rfl rfl rfl (by kernel_rfl) (by kernel_rfl) rfl ?io8x6)) (InvOb.intro (d := (some 51)) (r := fun u _ => u = .int .i64 (cn : Int)) 0 2 rfl rfl rfl (by kernel_rfl) (by kernel_rfl) rfl ?io8x7)) (InvOb.put (d := none) (r := fun _ _ => True) 0 rfl rfl rfl (by kernel_rfl) (by kernel_rfl) rfl ?io8x8)) (InvOb.put (d := none) (r := fun _ _ => True) 1 rfl rfl rfl (by kernel_rfl) (by kernel_rfl) rfl ?io8x9)) (InvOb.intro (d := (some 6)) (r := fun u _ => u = .int .i64 (cn : Int)) 2 2 rfl rfl rfl (by kernel_rfl) (by kernel_rfl) rfl ?io8x10)), ?iend8⟩
    case io8x0 =>
      intro k1 w1 hk0 hk1 hb1 hS hd KK hK
      clear hd
      have k0 := hS.c 2 0 rfl rfl
      simp only [Act.put, List.setIfInBounds_toArray, List.set_cons_zero, List.set_cons_succ] at hK
      go_simp
      first | exact hK.out _ _ trivial hS rfl | (have hk := hK.out _ _ trivial hS rfl; revert hk; go_simp)
    case io8x1 =>
      intro k1 w1 hk0 hk1 hb1 hS hd KK hK
      clear hd
      have k0 := hS.c 3 0 rfl rfl
      simp only [Act.put, List.setIfInBounds_toArray, List.set_cons_zero, List.set_cons_succ] at hK
      go_simp
      first | exact hK.out _ _ trivial hS rfl | (have hk := hK.out _ _ trivial hS rfl; revert hk; go_simp)
    case io8x2 =>
      intro k1 w1 hk0 hk1 hb1 hS hd KK hK
      clear hd
      simp only [Act.put, List.setIfInBounds_toArray, List.set_cons_zero, List.set_cons_succ] at hK
      go_simp
      first | exact hK.out _ _ trivial hS rfl | (have hk := hK.out _ _ trivial hS rfl; revert hk; go_simp)
    case io8x3 =>
      intro k1 w1 hk0 hk1 hb1 hS hd KK hK
      have d2 : x2 = .pointer (some ⟨w.heap.size, 1, none⟩) := hd 2 (by kernel_rfl)
      clear hd
      subst d2
      have k0 := hS.c 0 0 rfl rfl
      have k1 := hS.c 0 1 rfl rfl
      simp only [Act.put, List.setIfInBounds_toArray, List.set_cons_zero, List.set_cons_succ] at hK
      go_simp
      first | exact hK.out _ _ trivial hS rfl | (have hk := hK.out _ _ trivial hS rfl; revert hk; go_simp)
    case io8x4 =>
      intro k1 w1 hk0 hk1 hb1 hS hd KK hK
      have d3 : x3 = .slice b ys.length d := hd 3 (by kernel_rfl)
      clear hd
      subst d3
      simp only [Act.put, List.setIfInBounds_toArray, List.set_cons_zero, List.set_cons_succ] at hK
      go_simp
      first | exact hK.out _ _ trivial hS rfl | (have hk := hK.out _ _ trivial hS rfl; revert hk; go_simp)
    case io8x5 =>
      intro k1 w1 hk0 hk1 hb1 hS hd KK hK
      clear hd
      have k0 := hS.c 3 0 rfl rfl
      simp only [Act.put, List.setIfInBounds_toArray, List.set_cons_zero, List.set_cons_succ] at hK
      go_simp
      first | exact hK.out _ _ trivial hS rfl | (have hk := hK.out _ _ trivial hS rfl; revert hk; go_simp)
    case io8x6 =>
      intro k1 w1 hk0 hk1 hb1 hS hd KK hK
      have d5 : x5 = .slice (some ⟨Q, 0, none⟩) N N := hd 5 (by kernel_rfl)
      clear hd
      subst d5
      simp only [Act.put, List.setIfInBounds_toArray, List.set_cons_zero, List.set_cons_succ] at hK
      go_simp
      first | exact hK.out _ _ trivial hS rfl | (have hk := hK.out _ _ trivial hS rfl; revert hk; go_simp)
    case io8x7 =>
      intro k1 w1 hk0 hk1 hb1 hS hd KK hK
      have d4 : x4 = .int .i64 (ys.length : Int) := hd 4 (by kernel_rfl)
      have d6 : x6 = .int .i64 (N : Int) := hd 6 (by kernel_rfl)
      clear hd
      subst d4
      subst d6
      simp only [Act.put, List.setIfInBounds_toArray, List.set_cons_zero, List.set_cons_succ] at hK
      go_simp
      first | exact hK.out _ _ trivial hS rfl | (have hk := hK.out _ _ trivial hS rfl; revert hk; go_simp)
    case io8x8 =>
      intro w1 hb1 hS hd KK hK
      have d0 : x0 = .slice as_ S.length cs_ := hd 0 (by kernel_rfl)
      have d5 : x5 = .slice (some ⟨Q, 0, none⟩) N N := hd 5 (by kernel_rfl)
      clear hd
      subst d0
      subst d5
      have k0 := hS.c 2 0 rfl rfl
      have kf0 := hS.f 2 0 rfl rfl
      simp only [Act.put, List.setIfInBounds_toArray, List.set_cons_zero, List.set_cons_succ] at hK
      go_simp
      first | exact hK.out undef _ trivial (hS.set 2 rfl (by simp) [.slice as_ S.length cs_] rfl) trivial | (have hk := hK.out undef _ trivial (hS.set 2 rfl (by simp) [.slice as_ S.length cs_] rfl) trivial; revert hk; go_simp)
    case io8x9 =>
      intro w1 hb1 hS hd KK hK
      have d0 : x0 = .slice as_ S.length cs_ := hd 0 (by kernel_rfl)
      have d1 : x1 = .slice (some ⟨Q, 0, none⟩) N N := hd 1 (by kernel_rfl)
      have d5 : x5 = .slice (some ⟨Q, 0, none⟩) N N := hd 5 (by kernel_rfl)
      clear hd
      subst d0
      subst d1
      subst d5
      have k0 := hS.c 3 0 rfl rfl
      have kf0 := hS.f 3 0 rfl rfl
      simp only [Act.put, List.setIfInBounds_toArray, List.set_cons_zero, List.set_cons_succ] at hK
      go_simp
      first | exact hK.out undef _ trivial (hS.set 3 rfl (by simp) [.slice (some ⟨Q, 0, none⟩) N N] rfl) trivial | (have hk := hK.out undef _ trivial (hS.set 3 rfl (by simp) [.slice (some ⟨Q, 0, none⟩) N N] rfl) trivial; revert hk; go_simp)
    case io8x10 =>
      intro k1 w1 hk0 hk1 hb1 hS hd KK hK
      have d0 : x0 = .slice as_ S.length cs_ := hd 0 (by kernel_rfl)
      have d1 : x1 = .slice (some ⟨Q, 0, none⟩) N N := hd 1 (by kernel_rfl)
      have d2 : x2 = .pointer (some ⟨w.heap.size, 1, none⟩) := hd 2 (by kernel_rfl)
      have d3 : x3 = .slice b ys.length d := hd 3 (by kernel_rfl)
      have d4 : x4 = .int .i64 (ys.length : Int) := hd 4 (by kernel_rfl)
      have d5 : x5 = .slice (some ⟨Q, 0, none⟩) N N := hd 5 (by kernel_rfl)
      have d6 : x6 = .int .i64 (N : Int) := hd 6 (by kernel_rfl)
      have d7 : x7 = .int .i64 (cn : Int) := hd 7 (by kernel_rfl)
      clear hd
      subst d0
      subst d1
      subst d2
      subst d3
      subst d4
      subst d5
      subst d6
      subst d7
      simp only [Act.put, List.setIfInBounds_toArray, List.set_cons_zero, List.set_cons_succ] at hK
      go_simp
      first | exact hK.out _ _ trivial hS rfl | (have hk := hK.out _ _ trivial hS rfl; revert hk; go_simp)
    case iend8 =>
      intro w1 hb1 hS hR
      have d0 : x0 = .slice as_ S.length cs_ := hR 0 (by decide)
      have d1 : x1 = .slice (some ⟨Q, 0, none⟩) N N := hR 1 (by decide)
      have d2 : x2 = .pointer (some ⟨w.heap.size, 1, none⟩) := hR 2 (by decide)
      have d3 : x3 = .slice b ys.length d := hR 3 (by decide)
      have d4 : x4 = .int .i64 (ys.length : Int) := hR 4 (by decide)
      have d5 : x5 = .slice (some ⟨Q, 0, none⟩) N N := hR 5 (by decide)
      have d6 : x6 = .int .i64 (N : Int) := hR 6 (by decide)
      have d7 : x7 = .int .i64 (cn : Int) := hR 7 (by decide)
      have d10 : x10 = .int .i64 (cn : Int) := hR 10 (by decide)
      clear hR
      subst d0
      subst d1
      subst d2
      subst d3
      subst d4
      subst d5
      subst d6
      subst d7
      subst d10
      try simp only [putAll, Act.put, List.setIfInBounds_toArray, List.set_cons_zero, List.set_cons_succ]
      have FW := Lib.hid hS
      clear hS hb1 FY
      go_wp2
      refine ⟨by simp, .inl ⟨_, _, rfl, run_takeDeferred (FW.out.m 0 rfl), ?_⟩⟩
      have FV := FW.out.putM 0 rfl (.deferred none) rfl
      simp only [List.set_cons_zero, List.set_cons_succ] at FV
      generalize w1.putObj D (.deferred none) = U at *
      have y2 := FV.c 2 0 rfl rfl
      have y3 := FV.c 3 0 rfl rfl
      have hpost : RetSums w S N (fun k => sumK G ys k ys.length) (ys.length / N) (.returned (.tuple #[.slice as_ S.length cs_, .slice (some ⟨Q, 0, none⟩) N N, .int .i64 (cn : Int)])) U := ⟨as_, cs_, Q, by rw [HCN.out], by rw [HM.out]; exact FV.less (.cons _ (.cons _ (.cons _ (.cons _ (.cons_cons _ (.cons _ .slnil)))))) (List.nil_sublist _) (.cons_cons _ (.cons _ .slnil)) (List.nil_sublist _)⟩
      refine ⟨_, ?_, hpost⟩
      rw [results_ccs rfl]
      go_simp
end Go.Proofs.Ytmjcpgfekpedkaa
