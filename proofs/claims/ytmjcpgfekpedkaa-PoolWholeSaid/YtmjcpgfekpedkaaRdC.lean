/- Walks: slices.Contains, reduce.Axes, Rest, check. -/
import Derived.Test.YtmjcpgfekpedkaaRdB
import Derived.Test.YtmjcpgfekpedkaaRdI
set_option linter.unusedVariables false
set_option linter.unusedSimpArgs false
namespace Go.Proofs.Ytmjcpgfekpedkaa
open Go.RowKit Go.Rt
theorem index1_any (a : Option Addr) (c hi : Nat) (xs : List Int) (v : Int) (w : World) (h : Ints .i64 w hi a xs) :
    Calls Try.prog 93 #[.slice a xs.length c, .int .i64 v] w fun e w' => (∃ i : Int, e = .returned (.int .i64 i) ∧ decide (0 ≤ i) = inB xs v) ∧ w = w' := by
  obtain ⟨hm, _, hc⟩ := h
  go_enter Try.func93, Try.ntmps93
  go_wp2
  go_loop [8] (fun i => ∃ k : Nat, k ≤ xs.length ∧ i = .int .i64 k ∧ ∀ j, j < k → xs[j]?.getD 0 ≠ v) (fun i => xs.length - (intOf i).toNat)
  case atStart => exact ⟨0, Nat.zero_le _, rfl, fun j hj => absurd hj (by omega)⟩
  case round =>
    obtain ⟨k, hk, rfl, hall⟩ := hrel
    by_cases hlt : k < xs.length
    · obtain ⟨b, off, rfl, _, hcell⟩ := hc k hlt
      clear hc
      have HALL := Lib.hid hall
      clear hall
      by_cases hx : v = xs[k]?.getD 0
      · have HI : Hid (inB xs v = true) := Lib.hid (by rw [inB_iff, hx, List.getElem?_eq_getElem hlt]; exact List.getElem_mem hlt)
        obtain ⟨x, hxx⟩ : ∃ x, xs[k]?.getD 0 = x := ⟨_, rfl⟩
        rw [hxx] at hcell hx
        have hb : (v == x) = true := by simp [hx]
        clear hx hxx
        go_wp2
        go_ret
        exact ⟨⟨k, rfl, by rw [HI.out]; simp⟩, rfl⟩
      · have HA : Hid (∀ j, j < k + 1 → xs[j]?.getD 0 ≠ v) := Lib.hid (fun j hj => by
          by_cases hjk : j < k
          · exact HALL.out j hjk
          · obtain rfl : j = k := by omega
            exact fun h => hx h.symm)
        obtain ⟨x, hxx⟩ : ∃ x, xs[k]?.getD 0 = x := ⟨_, rfl⟩
        rw [hxx] at hcell hx
        have hb : (v == x) = false := by simpa using hx
        clear hx hxx
        go_wp2
        go_round
        case rel => exact ⟨k + 1, by omega, by go_num, HA.out⟩
        case measure => simp [intOf]; omega
    · obtain rfl : k = xs.length := by omega
      have HI : Hid (inB xs v = false) := Lib.hid (by
        cases hb : inB xs v with
        | false => rfl
        | true =>
          obtain ⟨j, hj, e⟩ := List.getElem_of_mem (inB_iff.1 hb)
          exact absurd (by rw [List.getElem?_eq_getElem hj]; exact e) (hall j hj))
      clear hall hc
      go_wp2
      go_ret
      exact ⟨⟨-1, rfl, by rw [HI.out]; decide⟩, rfl⟩
theorem contains1_any (a : Option Addr) (c hi : Nat) (xs : List Int) (v : Int) (w : World) (h : Ints .i64 w hi a xs) :
    Calls Try.prog 70 #[.slice a xs.length c, .int .i64 v] w fun e w' => e = .returned (.bool (inB xs v)) ∧ w = w' := by
  have hi := Lib.hid (index1_any a c hi xs v w h)
  obtain ⟨t, ht⟩ : ∃ t, inB xs v = t := ⟨_, rfl⟩
  rw [ht] at hi ⊢
  clear h ht
  go_enter Try.func70, Try.ntmps70
  go_wp2_with (first | (go_at_call 93; refine hi.out.mono ?_; rintro e w' ⟨⟨i, rfl, hdi⟩, rfl⟩; have HD := Lib.hid hdi; clear hdi))
  go_ret
  exact ⟨by rw [← HD.out]; rfl, rfl⟩
/-- The axis ahead of the k-th. -/
def lastJ (xs : List Int) (k : Nat) : Int := if k = 0 then -1 else xs[k - 1]?.getD 0
set_option maxHeartbeats 1000000 in
theorem axes1_any (a : Option Addr) (c hi : Nat) (xs : List Int) (r : Int) (w : World) (h : Ints .i64 w hi a xs) :
    Calls Try.prog 69 #[.slice a xs.length c, .int .i64 r] w fun e w' => e = .returned (.bool (axB (-1) r xs)) ∧ w = w' := by
  obtain ⟨hm, _, hc⟩ := h
  go_enter Try.func69, Try.ntmps69
  go_wp2
  go_step3
  go_wp2
  go_step3
  go_wp2
  go_loop [5, 6, 11] (fun s5 s6 i => ∃ k : Nat, k ≤ xs.length ∧ i = .int .i64 k ∧ s5 = .bool true ∧ s6 = .int .i64 (lastJ xs k) ∧ axB (-1) r xs = axB (lastJ xs k) r (xs.drop k)) (fun _ _ i => xs.length - (intOf i).toNat)
  case atStart => exact ⟨0, Nat.zero_le _, rfl, rfl, rfl, rfl⟩
  case round =>
    obtain ⟨k, hk, rfl, rfl, rfl, hax⟩ := hrel
    by_cases hlt : k < xs.length
    · obtain ⟨b, off, rfl, _, hcell⟩ := hc k hlt
      clear hc
      have hdr := drop_cons xs k hlt
      have hlj : lastJ xs (k + 1) = xs[k]?.getD 0 := by unfold lastJ; rw [if_neg (by omega)]; rfl
      rw [hdr, axB] at hax
      rw [List.getElem?_eq_getElem hlt, Option.getD_some] at hcell hlj
      obtain ⟨x, hx⟩ : ∃ x, xs[k] = x := ⟨_, rfl⟩
      obtain ⟨L, hL⟩ : ∃ x, lastJ xs k = x := ⟨_, rfl⟩
      rw [hx] at hcell hlj hax
      rw [hL] at hax ⊢
      have HAX := Lib.hid hax
      have HLJ := Lib.hid hlj
      clear hax hlj hdr hx hL
      by_cases h1 : x ≤ L
      · have HF : Hid (axB (-1) r xs = false) := Lib.hid (by rw [HAX.out, decide_eq_false (by omega : ¬ L < x)]; rfl)
        go_wp2
        go_ret
        exact ⟨by rw [HF.out]; rfl, rfl⟩
      · by_cases h2 : r ≤ x
        · have HF : Hid (axB (-1) r xs = false) := Lib.hid (by rw [HAX.out, decide_eq_false (by omega : ¬ x < r)]; simp)
          go_wp2
          go_ret
          exact ⟨by rw [HF.out]; rfl, rfl⟩
        · have HF : Hid (axB (-1) r xs = axB (lastJ xs (k + 1)) r (xs.drop (k + 1))) := Lib.hid (by rw [HAX.out, HLJ.out, decide_eq_true (by omega : L < x), decide_eq_true (by omega : x < r)]; rfl)
          go_wp2
          go_round
          case rel => exact ⟨k + 1, by omega, by go_num, rfl, by rw [HLJ.out], HF.out⟩
          case measure => simp [intOf]; omega
    · obtain rfl : k = xs.length := by omega
      have HF : Hid (axB (-1) r xs = true) := Lib.hid (by rw [hax, List.drop_length]; rfl)
      clear hax hc
      go_wp2
      go_ret
      exact ⟨by rw [HF.out]; rfl, rfl⟩
set_option maxHeartbeats 1000000 in
theorem rest_any (a a2 : Option Addr) (c c2 : Nat) (s axes : List Int) (w : World) (h : Ints .i64 w w.heap.size a s) (h2 : Ints .i64 w w.heap.size a2 axes) (hl : s.length ≤ 1000) :
    Calls Try.prog 40 #[.slice a s.length c, .slice a2 axes.length c2] w (RetInts w (restL s axes)) := by
  have H0 := Lib.hid h
  have H1 := Lib.hid h2
  have F1 := Lib.hid ((Fr.start (w := w) (I := [(.i64, a, s), (.i64, a2, axes)]) (by intro z hz; simp at hz; rcases hz with rfl | rfl; exact H0.out; exact H1.out)).addNil 3)
  simp only [List.nil_append] at F1
  clear h h2
  go_enter Try.func40, Try.ntmps40
  go_wp2
  go_loopw [4, 9] (fun s4 i wr => ∃ (j : Nat) (ab : Option Addr) (cb : Nat), j ≤ s.length ∧ i = .int .i64 j ∧ s4 = .slice ab (restJ s axes j).length cb ∧ Hid (Fr w.heap.size w wr [] [(.i64, a, s), (.i64, a2, axes)] [⟨3, .slice ab (restJ s axes j).length cb, (restJ s axes j).length, (restJ s axes j).map (Value.int .i64)⟩] [])) (fun _ i _ => s.length - (intOf i).toNat)
  case atStart => exact ⟨0, none, 0, Nat.zero_le _, rfl, rfl, F1⟩
  case round =>
    obtain ⟨j, ab, cb, hj, rfl, rfl, F2⟩ := hrel
    obtain ⟨wo, rfl⟩ : ∃ wo : World, wo = wr := ⟨_, rfl⟩
    clear F1
    by_cases hlt : j < s.length
    · obtain ⟨b, off, rfl, hlb, hcell⟩ := (F2.out.l 0 rfl).cell j hlt
      have hji : (j : Int) < (s.length : Int) := by omega
      have hco := Lib.hid (contains1_any a2 c2 wo.heap.size axes (j : Int) wo (F2.out.lw 1 rfl))
      have hrl := restJ_len s axes j
      have HRL := Lib.hid (show (restJ s axes j).length ≤ 1000000 by omega)
      clear hrl
      cases hb : inB axes (j : Int) with
      | true =>
        rw [hb] at hco
        have HE := Lib.hid (restJ_in (s := s) hb)
        clear hb
        go_wp2_with (first | (go_at_call 70; refine hco.out.mono ?_; rintro e w' ⟨rfl, rfl⟩) | fail)
        go_roundw
        case rel => exact ⟨j + 1, ab, cb, by omega, by go_num, by rw [HE.out], by rw [HE.out]; exact F2⟩
        case measure => simp [intOf]; omega
      | false =>
        rw [hb] at hco
        have HE := Lib.hid (restJ_out (s := s) hb)
        clear hb
        obtain ⟨x, hx⟩ : ∃ x, s[j]?.getD 0 = x := ⟨_, rfl⟩
        rw [hx] at hcell HE
        obtain ⟨L, hL⟩ : ∃ l, restJ s axes j = l := ⟨_, rfl⟩
        rw [hL] at F2 HE HRL ⊢
        clear hx hL
        go_wp2_with (first | (go_at_call 70; refine hco.out.mono ?_; rintro e w' ⟨rfl, rfl⟩) | (at_builtin; refine appendI w.heap.size (.slice ab L.length cb) L.length L x _ _ _ rfl rfl rfl (F2.out.r 0 rfl) rfl HRL.out F2.out.hlo ?_; intro v' w8 hown hbel hgr hob; obtain ⟨a8, c8, rfl, _⟩ := own_shape hown; have F8 := Lib.hid (F2.out.wroteO 0 rfl hgr hown (fun g hg => by rcases hob with h | h; exact .inl (h.symm.trans hg); exact .inr (by rw [h] at hg; injection hg with hg; omega))); simp only [List.set_cons_zero] at F8; clear hown hbel hgr hob F2) | fail)
        have hL2 : L.length + 1 = (L ++ [x]).length := by simp
        rw [hL2] at F8 ⊢
        go_roundw
        case rel => exact ⟨j + 1, a8, c8, by omega, by go_num, by rw [HE.out], by rw [HE.out]; exact F8⟩
        case measure => simp [intOf]; omega
    · obtain rfl : j = s.length := by omega
      go_wp2
      (try simp only [Exit.noGoto, Exit.inBlock, Exit.then])
      go_ret
      exact ⟨_, rfl, F2.out.r 0 rfl, F2.out.bel⟩
def ckZ (xs ys axes : List Int) : Int := if tenB xs ys = true then (if axB (-1) xs.length axes = true then 0 else 2) else 1
set_option maxHeartbeats 1000000 in
theorem check_any (a b a2 : Option Addr) (c d c2 : Nat) (xs ys axes : List Int) (w : World) (h : Ints .i64 w w.heap.size a xs) (h2 : Ints .i64 w w.heap.size b ys) (h3 : Ints .i64 w w.heap.size a2 axes) :
    Calls Try.prog 39 #[.agg #[.slice a xs.length c, .slice b ys.length d], .slice a2 axes.length c2] w fun e w' => e = .returned (.int .i64 (ckZ xs ys axes)) ∧ Below w.heap.size w w' := by
  have heg := fun W (h : Ints .i64 W W.heap.size a xs) (h2 : Ints .i64 W W.heap.size b ys) => elemGood_any a b c d xs ys W h h2
  have hax := fun W (h : Ints .i64 W W.heap.size a2 axes) => axes1_any a2 c2 W.heap.size axes (xs.length : Int) W h
  have H0 := Lib.hid h
  have H1 := Lib.hid h2
  have H2 := Lib.hid h3
  have hm := h.len
  unfold ckZ
  obtain ⟨t, ht⟩ : ∃ t, tenB xs ys = t := ⟨_, rfl⟩
  obtain ⟨u, hu⟩ : ∃ t, axB (-1) xs.length axes = t := ⟨_, rfl⟩
  rw [ht] at heg ⊢
  rw [hu] at hax ⊢
  have HEG := Lib.hid heg
  have HAX := Lib.hid hax
  clear heg hax ht hu h h2 h3
  have F1 := Lib.hid ((Fr.start (w := w) (I := [(.i64, a, xs), (.i64, b, ys), (.i64, a2, axes)]) (by intro z hz; simp at hz; rcases hz with rfl | rfl | rfl; exact H0.out; exact H1.out; exact H2.out)).box1 (b := w.heap.size) rfl [.slice a xs.length c, .slice b ys.length d] 26)
  simp only [List.nil_append] at F1
  cases t <;> cases u
  all_goals
    go_enter Try.func39, Try.ntmps39
    go_upto_region 1 with fail
    obtain ⟨W1, hW1⟩ : ∃ W1, w.alloc (.cells #[.slice a xs.length c, .slice b ys.length d] 26) = W1 := ⟨_, rfl⟩
    rw [hW1] at F1 ⊢
    clear hW1
    have c0 := F1.out.c 0 0 rfl rfl
    have c1 := F1.out.c 0 1 rfl rfl
    go_wp2_with (first | (go_at_call 55; refine (HEG.out _ (F1.out.lw 0 rfl) (F1.out.lw 1 rfl)).mono ?_; rintro e w2 ⟨rfl, hb⟩; have F2 := Lib.hid (F1.out.next hb); clear hb F1 c0 c1; have c0 := F2.out.c 0 0 rfl rfl) | (go_at_call 69; refine (HAX.out _ (F2.out.lw 2 rfl)).mono ?_; rintro e w' ⟨rfl, rfl⟩) | fail)
    go_ret
    exact ⟨by first | rfl | simp, F2.out.bel⟩
end Go.Proofs.Ytmjcpgfekpedkaa
