/- Walks over package rng's small functions and their like on the document's side. -/
import Derived.Test.YtiejkdnkdmanmaaRows
import Derived.Test.YtiejkdnkdmanmaaRng
import Derived.Laws.BitsAllLaws
import Derived.ChangeKeysEq
import Derived.Deep.QuietTactic
import Derived.BigQuiet
import Derived.Deep.RegionHeld3
import Derived.Deep.DrawnRows
import Derived.StillTailTactics
import Derived.BigRegion
set_option linter.unusedVariables false
set_option linter.unusedSimpArgs false
namespace Go.Proofs.Ytiejkdnkdmanmaa
open Go.RowKit Go.Rt
attribute [local go_sem ↓] Go.wp_at_zero Go.wp_at_succ

theorem results_tc {fn : Func} {u p : Tmp} {ty : TypeId} (h : fn.results = #[.tmp u, .cell p ty]) (tmps : Array Value) (P : Program) (w : World) :
    (results fn tmps).run P w = ((asAddr (tmps.getD p undef)).run P w).andThen fun a w₁ => ((loadVar ty a).run P w₁).andThen fun v w₂ => .ok (.tuple #[tmps.getD u undef, v]) w₂ := by
  simp only [results, h]
  simp [Sem.run_bind, Result.andThen]
theorem results_tct {fn : Func} {u p z : Tmp} {ty : TypeId} (h : fn.results = #[.tmp u, .cell p ty, .tmp z]) (tmps : Array Value) (P : Program) (w : World) :
    (results fn tmps).run P w = ((asAddr (tmps.getD p undef)).run P w).andThen fun a w₁ => ((loadVar ty a).run P w₁).andThen fun v w₂ => .ok (.tuple #[tmps.getD u undef, v, tmps.getD z undef]) w₂ := by
  simp only [results, h]
  simp [Sem.run_bind, Result.andThen]
theorem results_c {fn : Func} {p : Tmp} {ty : TypeId} (h : fn.results = #[.cell p ty]) (tmps : Array Value) (P : Program) (w : World) :
    (results fn tmps).run P w = ((asAddr (tmps.getD p undef)).run P w).andThen fun a w₁ => (loadVar ty a).run P w₁ := by
  simp only [results, h]
  simp [Sem.run_bind, Result.andThen]

theorem wrap_u64 (y : Int) : IntKind.u64.wrap y = y % 18446744073709551616 := by
  simp [IntKind.wrap, IntKind.signed, IntKind.bits]
theorem wrap_nat (y : Nat) : IntKind.u64.wrap (y : Int) = ((y % 18446744073709551616 : Nat) : Int) := by
  simp [IntKind.wrap, IntKind.signed, IntKind.bits]

theorem rotl7_any (x : Nat) (w : World) (hx : x < 18446744073709551616) :
    Calls Try.prog 84 #[.int .u64 x, .int .i64 7] w fun e w' => e = .returned (.int .u64 (rotN x 7 : Nat)) ∧ w = w' := by
  have h1 : bits .and .u64 7 63 = 7 := by decide
  have HR : Hid (bits .or .u64 (IntKind.u64.wrap ((x : Int) * 128)) ((x : Int) / 144115188075855872) = ((rotN x 7 : Nat) : Int)) := by
    have e1 : IntKind.u64.wrap ((x : Int) * 128) = ((x * 128 % 18446744073709551616 : Nat) : Int) := by rw [wrap_u64]; omega
    have e2 : (x : Int) / 144115188075855872 = ((x / 144115188075855872 : Nat) : Int) := by omega
    rw [e1, e2, u64_or_nat _ _ (Nat.mod_lt _ (by decide)) (Nat.lt_of_le_of_lt (Nat.div_le_self _ _) hx)]
    rfl
  go_enter Try.func84, Try.ntmps84
  go_wp2
  go_ret
  exact ⟨ret_int HR.out, rfl⟩

theorem rotl45_any (x : Nat) (w : World) (hx : x < 18446744073709551616) :
    Calls Try.prog 84 #[.int .u64 x, .int .i64 45] w fun e w' => e = .returned (.int .u64 (rotN x 45 : Nat)) ∧ w = w' := by
  have h1 : bits .and .u64 45 63 = 45 := by decide
  have HR : Hid (bits .or .u64 (IntKind.u64.wrap ((x : Int) * 35184372088832)) ((x : Int) / 524288) = ((rotN x 45 : Nat) : Int)) := by
    have e1 : IntKind.u64.wrap ((x : Int) * 35184372088832) = ((x * 35184372088832 % 18446744073709551616 : Nat) : Int) := by rw [wrap_u64]; omega
    have e2 : (x : Int) / 524288 = ((x / 524288 : Nat) : Int) := by omega
    rw [e1, e2, u64_or_nat _ _ (Nat.mod_lt _ (by decide)) (Nat.lt_of_le_of_lt (Nat.div_le_self _ _) hx)]
    rfl
  go_enter Try.func84, Try.ntmps84
  go_wp2
  go_ret
  exact ⟨ret_int HR.out, rfl⟩

theorem turn7_any (x : Nat) (w : World) (hx : x < 18446744073709551616) :
    Calls Try.prog 64 #[.int .u64 x, .int .u64 7] w fun e w' => e = .returned (.int .u64 (rotN x 7 : Nat)) ∧ w = w' := by
  have h1 : bits .and .u64 7 63 = 7 := by decide
  have HR : Hid (bits .or .u64 (IntKind.u64.wrap ((x : Int) * 128)) ((x : Int) / 144115188075855872) = ((rotN x 7 : Nat) : Int)) := by
    have e1 : IntKind.u64.wrap ((x : Int) * 128) = ((x * 128 % 18446744073709551616 : Nat) : Int) := by rw [wrap_u64]; omega
    have e2 : (x : Int) / 144115188075855872 = ((x / 144115188075855872 : Nat) : Int) := by omega
    rw [e1, e2, u64_or_nat _ _ (Nat.mod_lt _ (by decide)) (Nat.lt_of_le_of_lt (Nat.div_le_self _ _) hx)]
    rfl
  go_enter Try.func64, Try.ntmps64
  go_wp2
  go_ret
  exact ⟨ret_int HR.out, rfl⟩

theorem turn45_any (x : Nat) (w : World) (hx : x < 18446744073709551616) :
    Calls Try.prog 64 #[.int .u64 x, .int .u64 45] w fun e w' => e = .returned (.int .u64 (rotN x 45 : Nat)) ∧ w = w' := by
  have h1 : bits .and .u64 45 63 = 45 := by decide
  have HR : Hid (bits .or .u64 (IntKind.u64.wrap ((x : Int) * 35184372088832)) ((x : Int) / 524288) = ((rotN x 45 : Nat) : Int)) := by
    have e1 : IntKind.u64.wrap ((x : Int) * 35184372088832) = ((x * 35184372088832 % 18446744073709551616 : Nat) : Int) := by rw [wrap_u64]; omega
    have e2 : (x : Int) / 524288 = ((x / 524288 : Nat) : Int) := by omega
    rw [e1, e2, u64_or_nat _ _ (Nat.mod_lt _ (by decide)) (Nat.lt_of_le_of_lt (Nat.div_le_self _ _) hx)]
    rfl
  go_enter Try.func64, Try.ntmps64
  go_wp2
  go_ret
  exact ⟨ret_int HR.out, rfl⟩

theorem run_eq4 (w : World) (a b c d a' b' c' d' : Int) :
    (Op.equalIn 10000 25 (.agg #[.int .u64 a, .int .u64 b, .int .u64 c, .int .u64 d]) (.agg #[.int .u64 a', .int .u64 b', .int .u64 c', .int .u64 d'])).run Try.prog w = .ok ((a == a') && ((b == b') && ((c == c') && (d == d')))) w := by
  have hc : Try.prog.cellsOf 24 = 1 := by decide +kernel
  obtain ⟨i, hi, hz⟩ : ∃ i, Try.prog.info? 24 = some i ∧ i.size = 1 := by
    have h : (Try.prog.info? 24).map (fun i => i.size) = some 1 := by decide +kernel
    cases hh : Try.prog.info? 24 with
    | none => rw [hh] at h; simp at h
    | some i => rw [hh] at h; exact ⟨i, rfl, by simpa using h⟩
  rw [run_equalIn_array w 9999 _ _ Try.underlying25 hi, hc]
  have hp : ∀ (x y z u : Int) (j : Nat) (v : Value), #[Value.int .u64 x, .int .u64 y, .int .u64 z, .int .u64 u][j]? = some v → (part 24 #[Value.int .u64 x, .int .u64 y, .int .u64 z, .int .u64 u] (j * 1)).run Try.prog w = .ok v w := by
    intro x y z u j v hv
    simp [part, go_sem, hv]
  have he : ∀ x y : Int, (Op.equalIn 9999 24 (.int .u64 x) (.int .u64 y)).run Try.prog w = .ok (x == y) w := fun x y => run_equalIn_int w 9998 _ _ _ _ _ Try.underlying24
  have hl : List.range 4 = [0, 1, 2, 3] := rfl
  have hstep : ∀ (j : Nat) (x y : Int) (rest : List Nat), #[Value.int .u64 a, .int .u64 b, .int .u64 c, .int .u64 d][j]? = some (.int .u64 x) → #[Value.int .u64 a', .int .u64 b', .int .u64 c', .int .u64 d'][j]? = some (.int .u64 y) →
      (Op.eqItems 9999 24 1 #[Value.int .u64 a, .int .u64 b, .int .u64 c, .int .u64 d] #[Value.int .u64 a', .int .u64 b', .int .u64 c', .int .u64 d'] (j :: rest)).run Try.prog w =
        if (x == y) = true then (Op.eqItems 9999 24 1 #[Value.int .u64 a, .int .u64 b, .int .u64 c, .int .u64 d] #[Value.int .u64 a', .int .u64 b', .int .u64 c', .int .u64 d'] rest).run Try.prog w else .ok false w := by
    intro j x y rest hx hy
    rw [Op.eqItems]
    simp only [Sem.run_bind, hp a b c d j _ hx, hp a' b' c' d' j _ hy, Result.andThen_ok, he]
    cases x == y <;> simp
  rw [hl, hstep 0 a a' _ rfl rfl, hstep 1 b b' _ rfl rfl, hstep 2 c c' _ rfl rfl, hstep 3 d d' _ rfl rfl]
  cases a == a' <;> cases b == b' <;> cases c == c' <;> cases d == d' <;> simp [Op.eqItems]

theorem not_zeroI (s : St) : (!((s.a : Int) == 0) || (!((s.b : Int) == 0) || (!((s.c : Int) == 0) || !((s.d : Int) == 0)))) = !s.zero := by
  have h : ∀ n : Nat, ((n : Int) == 0) = decide (n = 0) := by
    intro n
    cases n with
    | zero => rfl
    | succ n => simp; omega
  simp only [St.zero, h]
  cases decide (s.a = 0) <;> cases decide (s.b = 0) <;> cases decide (s.c = 0) <;> cases decide (s.d = 0) <;> rfl
def goodR (n : Nat) (s : St) : Bool := decide (n ≤ 4096) && !s.zero
set_option maxRecDepth 100000 in
theorem rgood_any (a : Option Addr) (n c : Nat) (s : St) (w : World) (hs : s.ok) (hn : n ≤ 9223372036854775807) :
    Calls Try.prog 59 #[.agg #[.slice a n c, .int .u64 (s.a : Nat), .int .u64 (s.b : Nat), .int .u64 (s.c : Nat), .int .u64 (s.d : Nat)]] w fun e w' => e = .returned (.bool (goodR n s)) ∧ Below w.heap.size w w' := by
  have HE := run_eq4
  by_cases h : n ≤ 4096
  · have h1 : (n : Int) ≤ 4096 := by omega
    go_enter Try.func59, Try.ntmps59
    go_wp2
    go_ret
    exact ⟨ret_bool (by rw [not_zeroI]; simp [goodR, h]), (Below.refl _ _).alloc (Nat.le_refl _) _⟩
  · have h1 : (4096 : Int) < n := by omega
    go_enter Try.func59, Try.ntmps59
    go_wp2
    go_ret
    exact ⟨ret_bool (by simp [goodR, h]), (Below.refl _ _).alloc (Nat.le_refl _) _⟩

theorem rcheck_any (a : Option Addr) (n c : Nat) (s : St) (w : World) (hs : s.ok) (hn : n ≤ 9223372036854775807) :
    Calls Try.prog 22 #[.agg #[.slice a n c, .int .u64 (s.a : Nat), .int .u64 (s.b : Nat), .int .u64 (s.c : Nat), .int .u64 (s.d : Nat)]] w fun e w' => e = .returned (.int .i64 (if goodR n s then 0 else 1)) ∧ Below w.heap.size w w' := by
  have HG := fun w => Lib.hid (rgood_any a n c s w hs hn)
  cases hg : goodR n s
  all_goals
    rw [hg] at HG
    go_enter Try.func22, Try.ntmps22
    go_wp2_with (go_at_call 59; refine (HG _).out.mono ?_; rintro e w' ⟨rfl, hb⟩; have HB := Lib.hid hb; clear hb)
    go_ret
    exact ⟨rfl, ((Below.refl _ _).alloc (Nat.le_refl _) _).trans (HB.out.mono (by simp))⟩

set_option maxRecDepth 100000 in
theorem may24_any (a : Option Addr) (n c : Nat) (s : St) (w : World) (hs : s.ok) (hn : n ≤ 9223372036854775807) :
    Calls Try.prog 13 #[.agg #[.slice a n c, .int .u64 (s.a : Nat), .int .u64 (s.b : Nat), .int .u64 (s.c : Nat), .int .u64 (s.d : Nat)]] w fun e w' => e = .returned (.bool (goodR n s)) ∧ Below w.heap.size w w' := by
  have hz : ∀ k : Nat, ¬ k = 0 → ((k : Int) == 0) = false ∧ ((k : Int) != 0) = true := fun k hk => by
    constructor <;> simp <;> omega
  by_cases h : n ≤ 4096
  · have h1 : (n : Int) ≤ 4096 := by omega
    obtain ⟨s0, s1, s2, s3⟩ := s
    by_cases h0 : s0 = 0
    · subst h0
      by_cases h0 : s1 = 0
      · subst h0
        by_cases h0 : s2 = 0
        · subst h0
          by_cases h0 : s3 = 0
          · subst h0
            go_enter Try.func13, Try.ntmps13
            go_wp2
            go_ret
            exact ⟨ret_bool (by simp [goodR, St.zero, h]), (Below.refl _ _).alloc (Nat.le_refl _) _⟩
          · obtain ⟨e1, e2⟩ := hz _ h0
            go_enter Try.func13, Try.ntmps13
            go_wp2
            go_ret
            exact ⟨ret_bool (by simp [goodR, St.zero, h, h0]), (Below.refl _ _).alloc (Nat.le_refl _) _⟩
        · obtain ⟨e1, e2⟩ := hz _ h0
          go_enter Try.func13, Try.ntmps13
          go_wp2
          go_ret
          exact ⟨ret_bool (by simp [goodR, St.zero, h, h0]), (Below.refl _ _).alloc (Nat.le_refl _) _⟩
      · obtain ⟨e1, e2⟩ := hz _ h0
        go_enter Try.func13, Try.ntmps13
        go_wp2
        go_ret
        exact ⟨ret_bool (by simp [goodR, St.zero, h, h0]), (Below.refl _ _).alloc (Nat.le_refl _) _⟩
    · obtain ⟨e1, e2⟩ := hz _ h0
      go_enter Try.func13, Try.ntmps13
      go_wp2
      go_ret
      exact ⟨ret_bool (by simp [goodR, St.zero, h, h0]), (Below.refl _ _).alloc (Nat.le_refl _) _⟩
  · have h1 : (4096 : Int) < n := by omega
    go_enter Try.func13, Try.ntmps13
    go_wp2
    go_ret
    exact ⟨ret_bool (by simp [goodR, h]), (Below.refl _ _).alloc (Nat.le_refl _) _⟩

theorem Ints.tail {k : IntKind} {w : World} {hi b off : Nat} {x : Int} {xs : List Int} (h : Ints k w hi (some ⟨b, off, none⟩) (x :: xs)) : Ints k w hi (some ⟨b, off + 1, none⟩) xs :=
  ⟨by have := h.len; simp at this; omega, fun y hy => h.wf y (List.mem_cons_of_mem _ hy), fun i hi' => by
    obtain ⟨b', off', e, hlt, hc⟩ := h.cell (i + 1) (by simp; omega)
    simp at e
    obtain ⟨rfl, rfl⟩ := e
    exact ⟨b, off + 1, rfl, hlt, by rw [Nat.add_assoc, Nat.add_comm 1 i]; simpa using hc⟩⟩

/-- What a call hands back that tells a number and a generator: its script reads xs, its state is s. -/
def RetRand (w : World) (hi : Nat) (y : Int) (xs : List Int) (s : St) (e : Ending) (w' : World) : Prop :=
  ∃ a c, e = .returned (.tuple #[.int .u64 y, .agg #[.slice a xs.length c, .int .u64 (s.a : Nat), .int .u64 (s.b : Nat), .int .u64 (s.c : Nat), .int .u64 (s.d : Nat)]]) ∧ Ints .u64 w' hi a xs ∧ xs.length ≤ c ∧ c ≤ 9223372036854775807 ∧ Below w.heap.size w w'

set_option maxRecDepth 100000 in
theorem step_cons (a : Option Addr) (c hi0 : Nat) (s : St) (x : Int) (xs : List Int) (w : World) (hs : s.ok) (hhi : hi0 ≤ w.heap.size) (hi : Ints .u64 w hi0 a (x :: xs)) (hc : xs.length + 1 ≤ c) (hc2 : c ≤ 9223372036854775807) :
    Calls Try.prog 62 #[.agg #[.slice a (xs.length + 1) c, .int .u64 (s.a : Nat), .int .u64 (s.b : Nat), .int .u64 (s.c : Nat), .int .u64 (s.d : Nat)]] w (RetRand w hi0 x xs s) := by
  have HI := Lib.hid hi
  have HC := Lib.hid hc2
  obtain ⟨hm, _, hcell⟩ := hi
  obtain ⟨b, off, rfl, hb0, h0⟩ := hcell 0 (by simp)
  have hb : b < w.heap.size := Nat.lt_of_lt_of_le hb0 hhi
  simp only [List.getElem?_cons_zero, Option.getD_some, Nat.add_zero] at h0
  simp only [List.length_cons] at hm
  clear hcell hc2
  have k1 : (0 : Int) ≤ (xs.length : Int) + 1 := by omega
  have k2 : (1 : Int) ≤ (xs.length : Int) + 1 := by omega
  have k3 : (0 : Int) < (xs.length : Int) + 1 := by omega
  have k4 : (xs.length : Int) + 1 ≤ (c : Int) := by omega
  have hne := World.new_ne w _ h0
  go_enter Try.func62, Try.ntmps62
  go_wp2
  go_region_held3 (fun w' => w'.cell? ⟨b, off, none⟩ = some (.int .u64 x) ∧ w'.cell? ⟨w.heap.size, 0, none⟩ = some (.slice (some ⟨b, off, none⟩) (xs.length + 1) c) ∧ w'.cell? ⟨w.heap.size, 1, none⟩ = some (.int .u64 (s.a : Nat)) ∧ w'.cell? ⟨w.heap.size, 2, none⟩ = some (.int .u64 (s.b : Nat)) ∧ w'.cell? ⟨w.heap.size, 3, none⟩ = some (.int .u64 (s.c : Nat)) ∧ w'.cell? ⟨w.heap.size, 4, none⟩ = some (.int .u64 (s.d : Nat))) (go_keep) (fail)
  all_goals (try go_wp2)
  all_goals (try simp only [Exit.inBlock, Exit.then])
  · have hx : xs = [] := List.eq_nil_of_length_eq_zero (by omega)
    subst hx
    refine bodyPost_ret (v := .tuple #[.int .u64 x, .agg #[.slice (some ⟨b, off, none⟩) 0 0, .int .u64 (s.a : Nat), .int .u64 (s.b : Nat), .int .u64 (s.c : Nat), .int .u64 (s.d : Nat)]]) (by rw [results_tc rfl]; go_simp) rfl ⟨_, 0, rfl, Ints.nil _ _ _ _, Nat.le_refl _, by omega, ?_⟩
    (repeat' (first | exact Below.refl _ _ | refine Below.drew ?_ | refine Below.alloc ?_ (by simp <;> omega) _))
  · have hB : ∀ o1 o2, Below w.heap.size w ((w.alloc o1).alloc o2).drew := fun o1 o2 => by
      (repeat' (first | exact Below.refl _ _ | refine Below.drew ?_ | refine Below.alloc ?_ (by simp <;> omega) _))
    refine bodyPost_ret (v := .tuple #[.int .u64 x, .agg #[.slice (some ⟨b, off + 1, none⟩) xs.length (c - 1), .int .u64 (s.a : Nat), .int .u64 (s.b : Nat), .int .u64 (s.c : Nat), .int .u64 (s.d : Nat)]]) (by rw [results_tc rfl]; go_simp) rfl ⟨_, c - 1, rfl, ?_, by omega, by have := HC.out; omega, ?_⟩
    · exact (Go.Proofs.Ytiejkdnkdmanmaa.Ints.tail HI.out).below (hB _ _) hhi
    · exact hB _ _

set_option maxRecDepth 100000 in
theorem step_nil (a : Option Addr) (c hi0 : Nat) (s : St) (w : World) (hs : s.ok) (hc2 : c ≤ 9223372036854775807) :
    Calls Try.prog 62 #[.agg #[.slice a 0 c, .int .u64 (s.a : Nat), .int .u64 (s.b : Nat), .int .u64 (s.c : Nat), .int .u64 (s.d : Nat)]] w (RetRand w hi0 s.draw [] s.next) := by
  obtain ⟨ha, hb, hc, hd⟩ := hs
  obtain ⟨A, B, C, D⟩ := s
  simp only at ha hb hc hd
  obtain ⟨c1, hc1⟩ : ∃ y, C ^^^ A = y := ⟨_, rfl⟩
  obtain ⟨d1, hd1⟩ : ∃ y, D ^^^ B = y := ⟨_, rfl⟩
  have lc1 : c1 < 18446744073709551616 := by rw [← hc1]; exact xor_lt64 hc ha
  have ld1 : d1 < 18446744073709551616 := by rw [← hd1]; exact xor_lt64 hd hb
  obtain ⟨b1, hb1⟩ : ∃ y, B ^^^ c1 = y := ⟨_, rfl⟩
  obtain ⟨a1, ha1⟩ : ∃ y, A ^^^ d1 = y := ⟨_, rfl⟩
  obtain ⟨t, ht⟩ : ∃ y, B * 131072 % 18446744073709551616 = y := ⟨_, rfl⟩
  have lt : t < 18446744073709551616 := by rw [← ht]; exact Nat.mod_lt _ (by decide)
  obtain ⟨c2, hcc2⟩ : ∃ y, c1 ^^^ t = y := ⟨_, rfl⟩
  obtain ⟨m, hm⟩ : ∃ y, B * 5 % 18446744073709551616 = y := ⟨_, rfl⟩
  have lm : m < 18446744073709551616 := by rw [← hm]; exact Nat.mod_lt _ (by decide)
  obtain ⟨r, hr⟩ : ∃ y, rotN m 7 = y := ⟨_, rfl⟩
  obtain ⟨x, hx⟩ : ∃ y, r * 9 % 18446744073709551616 = y := ⟨_, rfl⟩
  obtain ⟨d2, hdd2⟩ : ∃ y, rotN d1 45 = y := ⟨_, rfl⟩
  have hD : St.draw ⟨A, B, C, D⟩ = x := by simp only [St.draw, hm, hr, hx]
  have hN : St.next ⟨A, B, C, D⟩ = ⟨a1, b1, c2, d2⟩ := by simp only [St.next, hc1, hd1, hb1, ha1, ht, hcc2, hdd2]
  rw [hD, hN]
  have x1 : bits .xor .u64 (C : Int) (A : Int) = (c1 : Int) := by rw [u64_xor_nat _ _ hc ha, hc1]
  have x2 : bits .xor .u64 (D : Int) (B : Int) = (d1 : Int) := by rw [u64_xor_nat _ _ hd hb, hd1]
  have x3 : bits .xor .u64 (B : Int) (c1 : Int) = (b1 : Int) := by rw [u64_xor_nat _ _ hb lc1, hb1]
  have x4 : bits .xor .u64 (A : Int) (d1 : Int) = (a1 : Int) := by rw [u64_xor_nat _ _ ha ld1, ha1]
  have x5 : bits .xor .u64 (c1 : Int) (t : Int) = (c2 : Int) := by rw [u64_xor_nat _ _ lc1 lt, hcc2]
  have x6 : IntKind.u64.wrap ((B : Int) * 131072) = (t : Int) := by rw [wrap_u64, ← ht]; omega
  have x7 : IntKind.u64.wrap ((B : Int) * 5) = (m : Int) := by rw [wrap_u64, ← hm]; omega
  have x8 : IntKind.u64.wrap ((r : Int) * 9) = (x : Int) := by rw [wrap_u64, ← hx]; omega
  have H7 := fun w => Lib.hid (rotl7_any m w lm)
  have H45 := fun w => Lib.hid (rotl45_any d1 w ld1)
  rw [hr] at H7
  rw [hdd2] at H45
  clear hc1 hd1 hb1 ha1 ht hcc2 hm hr hx hdd2 hD hN ha hb hc hd lc1 ld1 lt lm
  go_enter Try.func62, Try.ntmps62
  go_wp2_with (go_at_call 84; refine (H7 _).out.mono ?_; rintro e w' ⟨rfl, rfl⟩)
  go_region
  all_goals go_wp2
  go_region
  all_goals go_wp2
  go_region
  all_goals go_wp2
  go_region
  all_goals go_wp2
  go_region
  all_goals go_wp2
  go_region_with (go_at_call 84; refine (H45 _).out.mono ?_; rintro e w' ⟨rfl, rfl⟩)
  all_goals go_wp2
  go_region_held3 (fun w' => w'.cell? ⟨w.heap.size, 0, none⟩ = some (.slice a 0 c) ∧ w'.cell? ⟨w.heap.size, 1, none⟩ = some (.int .u64 (a1 : Nat)) ∧ w'.cell? ⟨w.heap.size, 2, none⟩ = some (.int .u64 (b1 : Nat)) ∧ w'.cell? ⟨w.heap.size, 3, none⟩ = some (.int .u64 (c2 : Nat)) ∧ w'.cell? ⟨w.heap.size, 4, none⟩ = some (.int .u64 (d2 : Nat))) (go_keep) (fail)
  all_goals go_wp2
  (try simp only [Exit.inBlock, Exit.then])
  refine bodyPost_ret (v := .tuple #[.int .u64 (x : Nat), .agg #[.slice a 0 c, .int .u64 (a1 : Nat), .int .u64 (b1 : Nat), .int .u64 (c2 : Nat), .int .u64 (d2 : Nat)]]) (by rw [results_tc rfl]; go_simp) rfl ⟨a, c, rfl, Ints.nil _ _ _ _, Nat.zero_le _, hc2, ?_⟩
  (repeat' (first | exact Below.refl _ _ | refine Below.drew ?_ | refine Below.alloc ?_ (by simp <;> omega) _))

end Go.Proofs.Ytiejkdnkdmanmaa
