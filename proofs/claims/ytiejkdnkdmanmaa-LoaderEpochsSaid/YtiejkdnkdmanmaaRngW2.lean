/- Walks: the document's Next; scripts compared, copied, cloned. -/
import Derived.Test.YtiejkdnkdmanmaaRngW1
set_option linter.unusedVariables false
set_option linter.unusedSimpArgs false
namespace Go.Proofs.Ytiejkdnkdmanmaa
open Go.RowKit Go.Rt
attribute [local go_sem ↓] Go.wp_at_zero Go.wp_at_succ

theorem infoU64 : (Try.prog.info? 24).map (fun i => (i.zero, i.size, i.bytes)) = some (some (.int .u64 0), 1, 8) := by kernel_rfl

set_option maxRecDepth 100000 in
theorem next24_cons (a : Option Addr) (c hi0 : Nat) (s : St) (x : Int) (xs : List Int) (w : World) (hs : s.ok) (hhi : hi0 ≤ w.heap.size) (hi : Ints .u64 w hi0 a (x :: xs)) (hc : xs.length + 1 ≤ c) (hc2 : c ≤ 9223372036854775807) :
    Calls Try.prog 19 #[.agg #[.slice a (xs.length + 1) c, .int .u64 (s.a : Nat), .int .u64 (s.b : Nat), .int .u64 (s.c : Nat), .int .u64 (s.d : Nat)]] w (RetRand w hi0 x xs s) := by
  have HI := Lib.hid hi
  have HC := Lib.hid hc2
  obtain ⟨hm, _, hcell⟩ := hi
  obtain ⟨b, off, rfl, hb0, h0⟩ := hcell 0 (by simp)
  have hb : b < w.heap.size := Nat.lt_of_lt_of_le hb0 hhi
  simp only [List.getElem?_cons_zero, Option.getD_some, Nat.add_zero] at h0
  simp only [List.length_cons] at hm
  clear hcell hc2
  have k1 : (0 : Int) ≤ (xs.length : Int) + 1 := by omega
  have k2 : (1 : Int) ≤ (xs.length : Int) + 1 := by omega
  have k3 : (0 : Int) < (xs.length : Int) + 1 := by omega
  have k4 : (xs.length : Int) + 1 ≤ (c : Int) := by omega
  have hne := World.new_ne w _ h0
  go_enter Try.func19, Try.ntmps19
  go_wp2
  go_region_held3 (fun w' => w'.cell? ⟨b, off, none⟩ = some (.int .u64 x) ∧ w'.cell? ⟨w.heap.size, 0, none⟩ = some (.slice (some ⟨b, off, none⟩) (xs.length + 1) c) ∧ w'.cell? ⟨w.heap.size, 1, none⟩ = some (.int .u64 (s.a : Nat)) ∧ w'.cell? ⟨w.heap.size, 2, none⟩ = some (.int .u64 (s.b : Nat)) ∧ w'.cell? ⟨w.heap.size, 3, none⟩ = some (.int .u64 (s.c : Nat)) ∧ w'.cell? ⟨w.heap.size, 4, none⟩ = some (.int .u64 (s.d : Nat))) (go_keep) (fail)
  all_goals (try go_wp2)
  all_goals (try simp only [Exit.inBlock, Exit.then])
  · have hx : xs = [] := List.eq_nil_of_length_eq_zero (by omega)
    subst hx
    refine bodyPost_ret (v := .tuple #[.int .u64 x, .agg #[.slice (some ⟨b, off, none⟩) 0 0, .int .u64 (s.a : Nat), .int .u64 (s.b : Nat), .int .u64 (s.c : Nat), .int .u64 (s.d : Nat)]]) (by rw [results_tc rfl]; go_simp) rfl ⟨_, 0, rfl, Ints.nil _ _ _ _, Nat.le_refl _, by omega, ?_⟩
    (repeat' (first | exact Below.refl _ _ | refine Below.drew ?_ | refine Below.alloc ?_ (by simp <;> omega) _))
  · have hB : ∀ o1 o2, Below w.heap.size w ((w.alloc o1).alloc o2).drew := fun o1 o2 => by
      (repeat' (first | exact Below.refl _ _ | refine Below.drew ?_ | refine Below.alloc ?_ (by simp <;> omega) _))
    refine bodyPost_ret (v := .tuple #[.int .u64 x, .agg #[.slice (some ⟨b, off + 1, none⟩) xs.length (c - 1), .int .u64 (s.a : Nat), .int .u64 (s.b : Nat), .int .u64 (s.c : Nat), .int .u64 (s.d : Nat)]]) (by rw [results_tc rfl]; go_simp) rfl ⟨_, c - 1, rfl, ?_, by omega, by have := HC.out; omega, ?_⟩
    · exact (Go.Proofs.Ytiejkdnkdmanmaa.Ints.tail HI.out).below (hB _ _) hhi
    · exact hB _ _

def rotI (v k : Int) : Int := ((rotN v.toNat k.toNat : Nat) : Int)
theorem turnI_any (v k : Int) (w : World) (hv : 0 ≤ v ∧ v < 18446744073709551616) (hk : k = 7 ∨ k = 45) :
    Calls Try.prog 64 #[.int .u64 v, .int .u64 k] w fun e w' => e = .returned (.int .u64 (rotI v k)) ∧ w = w' := by
  obtain ⟨n, rfl⟩ : ∃ n : Nat, v = n := ⟨v.toNat, by omega⟩
  rcases hk with rfl | rfl
  · exact turn7_any n w (by omega)
  · exact turn45_any n w (by omega)
set_option maxHeartbeats 1000000 in
set_option maxRecDepth 100000 in
theorem next24_nil (a : Option Addr) (c hi0 : Nat) (s : St) (w : World) (hs : s.ok) (hc2 : c ≤ 9223372036854775807) :
    Calls Try.prog 19 #[.agg #[.slice a 0 c, .int .u64 (s.a : Nat), .int .u64 (s.b : Nat), .int .u64 (s.c : Nat), .int .u64 (s.d : Nat)]] w (RetRand w hi0 s.draw [] s.next) := by
  obtain ⟨ha, hb, hc, hd⟩ := hs
  obtain ⟨A, B, C, D⟩ := s
  simp only at ha hb hc hd
  obtain ⟨c1, hc1⟩ : ∃ y, C ^^^ A = y := ⟨_, rfl⟩
  obtain ⟨d1, hd1⟩ : ∃ y, D ^^^ B = y := ⟨_, rfl⟩
  have lc1 : c1 < 18446744073709551616 := by rw [← hc1]; exact xor_lt64 hc ha
  have ld1 : d1 < 18446744073709551616 := by rw [← hd1]; exact xor_lt64 hd hb
  obtain ⟨b1, hb1⟩ : ∃ y, B ^^^ c1 = y := ⟨_, rfl⟩
  obtain ⟨a1, ha1⟩ : ∃ y, A ^^^ d1 = y := ⟨_, rfl⟩
  obtain ⟨t, ht⟩ : ∃ y, B * 131072 % 18446744073709551616 = y := ⟨_, rfl⟩
  have lt : t < 18446744073709551616 := by rw [← ht]; exact Nat.mod_lt _ (by decide)
  obtain ⟨c2, hcc2⟩ : ∃ y, c1 ^^^ t = y := ⟨_, rfl⟩
  obtain ⟨m, hm⟩ : ∃ y, B * 5 % 18446744073709551616 = y := ⟨_, rfl⟩
  have lm : m < 18446744073709551616 := by rw [← hm]; exact Nat.mod_lt _ (by decide)
  obtain ⟨r, hr⟩ : ∃ y, rotN m 7 = y := ⟨_, rfl⟩
  obtain ⟨x, hx⟩ : ∃ y, r * 9 % 18446744073709551616 = y := ⟨_, rfl⟩
  obtain ⟨d2, hdd2⟩ : ∃ y, rotN d1 45 = y := ⟨_, rfl⟩
  have hD : St.draw ⟨A, B, C, D⟩ = x := by simp only [St.draw, hm, hr, hx]
  have hN : St.next ⟨A, B, C, D⟩ = ⟨a1, b1, c2, d2⟩ := by simp only [St.next, hc1, hd1, hb1, ha1, ht, hcc2, hdd2]
  rw [hD, hN]
  have x1 : bits .xor .u64 (C : Int) (A : Int) = (c1 : Int) := by rw [u64_xor_nat _ _ hc ha, hc1]
  have x2 : bits .xor .u64 (D : Int) (B : Int) = (d1 : Int) := by rw [u64_xor_nat _ _ hd hb, hd1]
  have x3 : bits .xor .u64 (B : Int) (c1 : Int) = (b1 : Int) := by rw [u64_xor_nat _ _ hb lc1, hb1]
  have x4 : bits .xor .u64 (A : Int) (d1 : Int) = (a1 : Int) := by rw [u64_xor_nat _ _ ha ld1, ha1]
  have x5 : bits .xor .u64 (c1 : Int) (t : Int) = (c2 : Int) := by rw [u64_xor_nat _ _ lc1 lt, hcc2]
  have x6 : IntKind.u64.wrap ((B : Int) * 131072) = (t : Int) := by rw [wrap_u64, ← ht]; omega
  have x7 : IntKind.u64.wrap ((B : Int) * 5) = (m : Int) := by rw [wrap_u64, ← hm]; omega
  have x8 : IntKind.u64.wrap ((r : Int) * 9) = (x : Int) := by rw [wrap_u64, ← hx]; omega
  have e7 : rotI (m : Int) 7 = (r : Int) := by rw [← hr]; rfl
  have e45 : rotI (d1 : Int) 45 = (d2 : Int) := by rw [← hdd2]; rfl
  have HT := fun v k w hv hk => Lib.hid (turnI_any v k w hv hk)
  clear hc1 hd1 hb1 ha1 ht hcc2 hm hr hx hdd2 hD hN ha hb hc hd lc1  lt
  go_enter Try.func19, Try.ntmps19
  go_wp2_with (go_at_call 64; refine (HT _ _ _ (by constructor <;> omega) (by decide)).out.mono ?_; rintro e w' ⟨rfl, rfl⟩)
  go_region
  all_goals go_wp2
  (try simp only [Exit.inBlock, Exit.then])
  refine bodyPost_ret (v := .tuple #[.int .u64 (x : Nat), .agg #[.slice none 0 0, .int .u64 (a1 : Nat), .int .u64 (b1 : Nat), .int .u64 (c2 : Nat), .int .u64 (d2 : Nat)]]) (by rw [results_tc rfl]; go_simp) rfl ⟨none, 0, rfl, Ints.nil _ _ _ _, Nat.zero_le _, by omega, ?_⟩
  (repeat' (first | exact Below.refl _ _ | refine Below.drew ?_ | refine Below.alloc ?_ (by simp <;> omega) _))

theorem takeU_snoc {α : Type} (xs : List α) (k : Nat) (h : k < xs.length) : xs.take (k + 1) = xs.take k ++ [xs[k]] := by
  rw [List.take_succ_eq_append_getElem h]
theorem take_neU {xs ys : List Int} (k : Nat) (h1 : k < xs.length) (h2 : k < ys.length) (hne : xs[k] ≠ ys[k]) : xs ≠ ys := by
  intro e; subst e; exact hne rfl

set_option maxHeartbeats 400000 in
theorem eqDraws_any (a a2 : Option Addr) (c c2 hi : Nat) (xs ys : List Int) (w : World) (h : Ints .u64 w hi a xs) (h2 : Ints .u64 w hi a2 ys) :
    Calls Try.prog 63 #[.slice a xs.length c, .slice a2 ys.length c2] w fun e w' => e = .returned (.bool (decide (xs = ys))) ∧ ∃ q, w' = w.drewN q := by
  obtain ⟨hm, _, hc⟩ := h
  obtain ⟨hm2, _, hc2⟩ := h2
  by_cases hl : xs.length = ys.length
  · have hl1 : ((xs.length : Int) == (ys.length : Int)) = true := by simp; omega
    have hl2 : ((xs.length : Int) != (ys.length : Int)) = false := by simp; omega
    have HL := Lib.hid hl
    clear hl
    go_enter Try.func63, Try.ntmps63
    go_wp2
    go_loopw [5] (fun i wr => ∃ k : Nat, k ≤ xs.length ∧ i = .int .i64 k ∧ xs.take k = ys.take k ∧ ∃ q, wr = w.drewN q) (fun i _ => xs.length - (intOf i).toNat)
    case atStart => exact ⟨0, Nat.zero_le _, rfl, rfl, 0, rfl⟩
    case round =>
      obtain ⟨k, hk, rfl, htk, q, rfl⟩ := hrel
      have HT := Lib.hid htk
      clear htk
      by_cases hlt : k < xs.length
      · have hlt2 : k < ys.length := by have := HL.out; omega
        obtain ⟨b, off, rfl, _, hcell⟩ := hc k hlt
        obtain ⟨b2, off2, rfl, _, hcell2⟩ := hc2 k hlt2
        clear hc hc2
        rw [List.getElem?_eq_getElem hlt] at hcell
        rw [List.getElem?_eq_getElem hlt2] at hcell2
        simp only [Option.getD_some] at hcell hcell2
        by_cases he : xs[k] = ys[k]
        · have he1 : (xs[k] == ys[k]) = true := by simp [he]
          have he2 : (xs[k] != ys[k]) = false := by simp [he]
          have HE := Lib.hid he
          clear he
          go_wp2
          go_quiet (fail)
          go_wp2
          go_roundw
          case rel => exact ⟨k + 1, by omega, by go_num, by rw [takeU_snoc _ _ hlt, takeU_snoc _ _ hlt2, HT.out, HE.out], _, by first | rfl | exact World.drewN_drewN _ _ _⟩
          case measure => simp [intOf]; omega
        · have he1 : (xs[k] == ys[k]) = false := by simp [he]
          have he2 : (xs[k] != ys[k]) = true := by simp [he]
          have HE := Lib.hid (take_neU k hlt hlt2 he)
          clear he
          go_wp2
          go_quiet (fail)
          go_wp2
          go_ret
          exact ⟨ret_bool (by simp [HE.out]), _, by first | rfl | exact World.drewN_drewN _ _ _⟩
      · have hke : k = xs.length := by omega
        subst hke
        have HX : Hid (xs = ys) := by
          have := HT.out
          rw [List.take_length, HL.out, List.take_length] at this
          exact this
        go_wp2
        go_ret
        exact ⟨ret_bool (by simp [HX.out]), _, rfl⟩
  · have hl1 : ((xs.length : Int) == (ys.length : Int)) = false := by simp; omega
    have hl2 : ((xs.length : Int) != (ys.length : Int)) = true := by simp; omega
    have HX : Hid (¬ xs = ys) := fun e => hl (by rw [e])
    clear hl
    go_enter Try.func63, Try.ntmps63
    go_wp2
    go_ret
    exact ⟨ret_bool (by simp [HX.out]), 0, rfl⟩

/-- What a function hands back that makes a list of draws. -/
def RetDraws (w : World) (xs : List Int) (e : Ending) (w' : World) : Prop :=
  ∃ v, e = .returned v ∧ w'.ownsRow w.heap.size 24 1 v xs.length (xs.map (Value.int .u64)) ∧ Below w.heap.size w w'

set_option maxHeartbeats 400000 in
theorem copyDraws_any (a : Option Addr) (c : Nat) (xs : List Int) (w : World) (h : Ints .u64 w w.heap.size a xs) (hn : xs.length ≤ 17592186044415) :
    Calls Try.prog 65 #[.slice a xs.length c] w (RetDraws w xs) := by
  obtain ⟨hm, _, hc⟩ := h
  go_enter Try.func65, Try.ntmps65
  go_wp2
  go_loopw [3, 4] (fun v i wr => ∃ k : Nat, k ≤ xs.length ∧ i = .int .i64 k ∧ wr.ownsRow w.heap.size 24 1 v k ((xs.take k).map (Value.int .u64)) ∧ Below w.heap.size w wr) (fun _ i _ => xs.length - (intOf i).toNat)
  case atStart => exact ⟨0, Nat.zero_le _, rfl, World.ownsRow_nil _ _ _ _, Below.refl _ _⟩
  case round =>
    obtain ⟨k, hk, rfl, hown, hbel⟩ := hrel
    by_cases hlt : k < xs.length
    · obtain ⟨b, off, rfl, hlb, hcell⟩ := hc k hlt
      clear hc
      rw [List.getElem?_eq_getElem hlt] at hcell
      simp only [Option.getD_some] at hcell
      have hcr : wr.cell? ⟨b, off + k, none⟩ = some (.int .u64 xs[k]) := (hbel.cell (p := ⟨b, off + k, none⟩) hlb).trans hcell
      have HO := Lib.hid hown
      have HB := Lib.hid hbel
      have hsz := hbel.size
      clear hown hbel hcell
      go_wp2_with (at_builtin; (refine wpl_append1 23 24 .u64 infoU64 Try.underlying23 w.heap.size _ k (xs.take k) xs[k] _ _ _ rfl rfl rfl HO.out rfl (by omega) hsz ?_); intro v' w1 hown1 hbel1 _)
      have HO1 := Lib.hid hown1
      have HB1 := Lib.hid (hbel1 _ _ (Nat.le_refl _) HB.out)
      clear hown1 hbel1
      go_roundw
      case rel => exact ⟨k + 1, by omega, by go_num, by rw [takeU_snoc _ _ hlt]; exact HO1.out, HB1.out⟩
      case measure => simp [intOf]; omega
    · have hke : k = xs.length := by omega
      subst hke
      have HO := Lib.hid hown
      have HB := Lib.hid hbel
      clear hown hbel hc
      go_wp2
      go_ret
      exact ⟨_, rfl, by have := HO.out; rw [List.take_length] at this; exact this, HB.out⟩

end Go.Proofs.Ytiejkdnkdmanmaa
