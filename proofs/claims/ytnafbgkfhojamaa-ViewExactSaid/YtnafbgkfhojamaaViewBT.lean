/- What the law ViewBack counts. No program in sight. -/
import Derived.Test.YtnafbgkfhojamaaViewBP
import Derived.Test.YtnafbgkfhojamaaViewBS
import Derived.Test.YtnafbgkfhojamaaViewD
import Derived.Test.YtnafbgkfhojamaaViewH
set_option linter.unusedVariables false
set_option linter.unusedSimpArgs false
namespace Go.Proofs.Ytnafbgkfhojamaa
open Go.RowKit Go.Rt
/-- The axes turned round, as far as the first k. -/
def BackK (axs bk : List Int) (k : Nat) : Prop := bk.length = axs.length ∧ (∀ m (hm : m < axs.length), m < k → bk[axs[m].toNat]?.getD 0 = (m : Int)) ∧ ∀ x ∈ bk, 0 ≤ x ∧ x ≤ 1000
theorem backK_zero (axs : List Int) : BackK axs (List.replicate axs.length 0) 0 :=
  ⟨by simp, fun m _ h => by omega, fun x hx => by have := (List.mem_replicate.1 hx).2; omega⟩
theorem once_at {n : Nat} {axs : List Int} (h : Once n axs) {m : Nat} (hm : m < axs.length) : 0 ≤ axs[m] ∧ axs[m] < (n : Int) ∧ axs[m].toNat < n := by
  have hp := (once_perm h).mem_iff.1 (List.getElem_mem hm)
  obtain ⟨k, hk, e⟩ := List.mem_map.1 hp
  have := List.mem_range.1 hk
  omega
theorem once_len {n : Nat} {axs : List Int} (h : Once n axs) : axs.length = n := by simpa using (once_perm h).length_eq
theorem backK_succ {axs bk : List Int} {k : Nat} (h : Once axs.length axs) (hk : k < axs.length) (hl : axs.length ≤ 10) (hb : BackK axs bk k) : BackK axs (bk.set axs[k].toNat (k : Int)) (k + 1) := by
  obtain ⟨h1, h2, h3⟩ := hb
  refine ⟨by simpa using h1, fun m hm hlt => ?_, fun x hx => ?_⟩
  · by_cases he : m = k
    · subst he
      have := (once_at h hm).2.2
      rw [List.getElem?_set_self (by omega)]
      rfl
    · have hne : axs[k].toNat ≠ axs[m].toNat := fun e => by
        have q1 := once_at h hm
        have q2 := once_at h hk
        have e2 : axs[k] = axs[m] := by omega
        have := (List.getElem_inj h.nodup).1 e2
        omega
      rw [List.getElem?_set_ne hne]
      exact h2 m hm (by omega)
  · rcases List.mem_or_eq_of_mem_set hx with g | g
    · exact h3 x g
    · omega
theorem backK_axes {axs bk : List Int} (h : Once axs.length axs) (hb : BackK axs bk axs.length) : axesB bk axs.length = true := by
  obtain ⟨h1, h2, h3⟩ := hb
  unfold axesB
  simp only [Int.toNat_natCast, Bool.and_eq_true, decide_eq_true_eq, List.all_eq_true, List.mem_range, List.contains_iff_mem]
  refine ⟨by omega, fun k hk => ?_⟩
  have g := h2 k hk hk
  have g2 := (once_at h hk).2.2
  rw [List.getElem?_eq_getElem (by omega)] at g
  simp only [Option.getD_some] at g
  rw [← g]
  exact List.getElem_mem _
theorem backK_wf {axs bk : List Int} {k : Nat} (hb : BackK axs bk k) : ∀ x ∈ bk, (Lit.int .i64 x).wf = true := fun x hx => by
  refine wf_dims (xs := bk) (fun y hy => ?_) x hx
  have := hb.2.2 y hy
  omega
/-- What the slice has, counted along the whole. -/
theorem slab {sh st data : List Int} {off : Int} {a k : Nat} (hv : viewB sh st off data.length = true) (ha : a < sh.length) (hk : (k : Int) < sh[a]) :
    ∃ (cnt dig : Nat → Nat), cnt 0 = 0 ∧ cnt (wordsV sh st off data).length = (wordsV (sh.set a 1) st (off + (k : Int) * (st[a]?.getD 0)) data).length ∧ ∀ n, n < (wordsV sh st off data).length →
      (standsI sh (n : Int))[a]? = some (dig n : Int) ∧ dig n < 65536 ∧ (dig n ≠ k → cnt (n + 1) = cnt n) ∧
      (dig n = k → cnt (n + 1) = cnt n + 1 ∧ cnt n < (wordsV (sh.set a 1) st (off + (k : Int) * (st[a]?.getD 0)) data).length ∧ (wordsV (sh.set a 1) st (off + (k : Int) * (st[a]?.getD 0)) data)[cnt n]? = (wordsV sh st off data)[n]?) := by
  have hg := (viewB_iff.1 hv).1
  have hD := goodB_dims hg
  obtain ⟨hP1, hP2⟩ := goodB_prod hg
  have hR0 := (hD.drop (a + 1)).pos
  have hd0 := hD.at ha
  have hPs : prodI sh = prodI (sh.take a) * (sh[a] * prodI (sh.drop (a + 1))) := by rw [← prodI_drop_succ sh a ha]; exact prodI_split sh a
  have hP3 := prodI_set_one sh a ha
  have hT := (hD.take a).pos
  obtain ⟨R, hR⟩ : ∃ R : Nat, prodI (sh.drop (a + 1)) = (R : Int) := ⟨(prodI (sh.drop (a + 1))).toNat, by omega⟩
  obtain ⟨d, hd⟩ : ∃ d : Nat, sh[a] = (d : Int) := ⟨sh[a].toNat, by omega⟩
  obtain ⟨P1, hp1⟩ : ∃ P1 : Nat, prodI (sh.take a) = (P1 : Int) := ⟨(prodI (sh.take a)).toNat, by omega⟩
  have hRp : 0 < R := by omega
  have hkd : k < d := by omega
  have hN : (prodI sh).toNat = P1 * (d * R) := by rw [hPs, hp1, hd, hR]; norm_cast
  have hM : (prodI (sh.set a 1)).toNat = P1 * R := by rw [hP3, hp1, hR]; norm_cast
  refine ⟨slC R d k, fun n => n / R % d, slC_zero R d k, ?_, fun n hn => ?_⟩
  · rw [wordsV_len, wordsV_len, hN, hM, slC_all hRp hkd]
  · rw [wordsV_len, hN] at hn
    have hnI : (n : Int) < prodI sh := by
      have : ((P1 * (d * R) : Nat) : Int) = prodI sh := by rw [← hN]; omega
      omega
    have hdig : (n : Int) / prodI (sh.drop (a + 1)) % sh[a] = ((n / R % d : Nat) : Int) := by rw [hR, hd]; norm_cast
    have hlt : n / R % d < d := Nat.mod_lt _ (by omega)
    refine ⟨?_, ?_, fun hne => ?_, fun he => ?_⟩
    · rw [standsI_get sh n a ha, hdig]
    · show n / R % d < 65536
      have := hd0.2
      omega
    · have := slC_succ (n := n) hRp hkd
      rw [if_neg hne] at this
      exact this
    · have hs := slC_succ (n := n) hRp hkd
      rw [if_pos he] at hs
      have hsl := slC_slI (n := n) hRp hkd he
      have hbd := slI_bound (R := (R : Int)) (d := (d : Int)) (n := (n : Int)) (P1 := (P1 : Int)) (by omega) (by omega) (by omega) (by rw [← hR, ← hd, ← hp1, ← hPs]; exact hnI)
      rw [hsl] at hbd
      have hlt2 : slC R d k n < P1 * R := by
        have := hbd.2
        norm_cast at this
      refine ⟨hs, by rw [wordsV_len, hM]; exact hlt2, ?_⟩
      rw [wordsV_get _ _ _ _ (by rw [hM]; exact hlt2), wordsV_get _ _ _ _ (by rw [hN]; exact hn)]
      have hat := at_slice sh st a (n : Int) (k : Int) off ha hD (by omega) hnI (by rw [hdig]; exact congrArg _ he)
      rw [hR, hd, hsl] at hat
      rw [hat]
theorem permL_wf {xs axs : List Int} (h : ∀ x ∈ xs, (Lit.int .i64 x).wf = true) : ∀ x ∈ permL xs axs, (Lit.int .i64 x).wf = true := fun x hx => by
  obtain ⟨i, _, rfl⟩ := List.mem_map.1 hx
  exact getD_wf h _
theorem wordsV_isW {sh st data : List Int} {off : Int} (h : data.all isW = true) : (wordsV sh st off data).all isW = true := by
  rw [List.all_eq_true] at h ⊢
  intro x hx
  obtain ⟨i, _, rfl⟩ := List.mem_map.1 hx
  cases hg : data[(atV sh st off i).toNat]? with
  | none => rfl
  | some y => exact h y (List.mem_of_getElem? hg)
theorem wordsV_wf {sh st data : List Int} {off : Int} (h : ∀ x ∈ data, (Lit.int .i64 x).wf = true) : ∀ x ∈ wordsV sh st off data, (Lit.int .i64 x).wf = true := fun x hx => by
  obtain ⟨i, _, rfl⟩ := List.mem_map.1 hx
  exact getD_wf h _
theorem words_prod {sh st data : List Int} {off n : Int} (hv : viewB sh st off n = true) : ((wordsV sh st off data).length : Int) = prodI sh := by
  obtain ⟨hP1, hP2⟩ := goodB_prod (viewB_iff.1 hv).1
  rw [wordsV_len]
  omega
theorem layR_words {sh st data : List Int} {off : Int} (hv : viewB sh st off data.length = true) (h : layZ sh st off = 0) : layR sh st off (wordsV sh st off data) data = data := by
  unfold layZ at h
  unfold layR
  split at h
  · rw [if_pos (by assumption)]
    exact lay_words hv
  · exact absurd h (by decide)
theorem layR_wf {sh st data ys : List Int} {off : Int} (h : ∀ x ∈ data, (Lit.int .i64 x).wf = true) (h2 : ∀ x ∈ ys, (Lit.int .i64 x).wf = true) : ∀ x ∈ layR sh st off ys data, (Lit.int .i64 x).wf = true := by
  intro x hx
  unfold layR at hx
  split at hx
  · rcases layP_mem _ _ _ _ hx with h3 | h3
    · exact h x h3
    · exact h2 x h3
  · cases hx
theorem view_up {sh st : List Int} {off n : Int} (hv : viewB sh st off n = true) : viewB sh st off 65536 = true := by
  obtain ⟨h1, h2, h3, h4, h5, h6, h7⟩ := viewB_iff.1 hv
  exact viewB_iff.2 ⟨h1, h2, h3, by omega, by omega, h6, by omega⟩
theorem count_words {sh st data : List Int} {off : Int} {n : Int} (hv : viewB sh st off n = true) : ((wordsV sh st off data).length : Int) = countE sh ∧ countE sh ≤ 65536 := by
  have hg := (viewB_iff.1 hv).1
  obtain ⟨hP1, hP2⟩ := goodB_prod hg
  rw [wordsV_len, countE_good hg]
  omega
end Go.Proofs.Ytnafbgkfhojamaa
