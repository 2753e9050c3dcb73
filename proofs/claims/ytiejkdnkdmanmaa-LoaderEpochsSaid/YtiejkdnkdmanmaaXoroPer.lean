/- The period of the draws' step is 2^256 - 1: from every state but 0 the step comes to state 1. Plain arithmetic, no program in sight. -/
import Derived.Test.YtiejkdnkdmanmaaXoro
import Derived.Test.YtiejkdnkdmanmaaXoroNA
import Derived.Test.YtiejkdnkdmanmaaXoroNB
import Derived.Test.YtiejkdnkdmanmaaXoroNC
set_option linter.unusedVariables false
set_option linter.unusedSimpArgs false
namespace Go.Rt

/-! ### the primes of 2^256 - 1 -/
theorem pr3 : Pr 3 := prime_of_trial (k := 1) (by decide) (by decide +kernel) (by decide)
theorem pr5 : Pr 5 := prime_of_trial (k := 1) (by decide) (by decide +kernel) (by decide)
theorem pr17 : Pr 17 := prime_of_trial (k := 4) (by decide) (by decide +kernel) (by decide)
theorem pr257 : Pr 257 := prime_of_trial (k := 16) (by decide) (by decide +kernel) (by decide)
theorem pr641 : Pr 641 := prime_of_trial (k := 25) (by decide) (by decide +kernel) (by decide)
theorem pr65537 : Pr 65537 := prime_of_trial (k := 256) (by decide) (by decide +kernel) (by decide)
theorem pr274177 : Pr 274177 := prime_of_trial (k := 525) (by decide) (by decide +kernel) (by decide)
theorem pr6700417 : Pr 6700417 := prime_of_trial (k := 2590) (by decide) (by decide +kernel) (by decide)
theorem pr2998279 : Pr 2998279 := prime_of_trial (k := 1731) (by decide) (by decide +kernel) (by decide)
theorem pr1896229 : Pr 1896229 := prime_of_trial (k := 1377) (by decide) (by decide +kernel) (by decide)
theorem pr55515497 : Pr 55515497 := prime_of_trial (k := 7451) (by decide) (by decide +kernel) (by decide)
theorem pr18533742247 : Pr 18533742247 := pocklington 0 (q := 1896229) (r := 9774) (a := 2) (f := 35) (by decide) pr1896229 (by decide +kernel) (by decide +kernel) (by decide +kernel) (by decide +kernel) (by decide +kernel) (by decide +kernel)
theorem pr116503103764643 : Pr 116503103764643 := pocklington 0 (q := 18533742247) (r := 6286) (a := 2) (f := 47) (by decide) pr18533742247 (by decide +kernel) (by decide +kernel) (by decide +kernel) (by decide +kernel) (by decide +kernel) (by decide +kernel)
theorem pr59649589127497217 : Pr 59649589127497217 := pocklington 0 (q := 116503103764643) (r := 512) (a := 3) (f := 56) (by decide) pr116503103764643 (by decide +kernel) (by decide +kernel) (by decide +kernel) (by decide +kernel) (by decide +kernel) (by decide +kernel)
theorem pr733803839347 : Pr 733803839347 := pocklington 0 (q := 55515497) (r := 13218) (a := 2) (f := 40) (by decide) pr55515497 (by decide +kernel) (by decide +kernel) (by decide +kernel) (by decide +kernel) (by decide +kernel) (by decide +kernel)
theorem pr5704689200685129054721 : Pr 5704689200685129054721 := pocklington 0 (q := 733803839347) (r := 7774133760) (a := 3) (f := 73) (by decide) pr733803839347 (by decide +kernel) (by decide +kernel) (by decide +kernel) (by decide +kernel) (by decide +kernel) (by decide +kernel)
theorem pr67280421310721 : Pr 67280421310721 := pocklington 2 (q := 2998279) (r := 22439680) (a := 3) (f := 46) (by decide) pr2998279 (by decide +kernel) (by decide +kernel) (by decide +kernel) (by decide +kernel) (by decide +kernel) (by decide +kernel)

/-! ### the period -/
def xN : Nat := 115792089237316195423570985008687907853269984665640564039457584007913129639935
theorem xN_pow : 2 ^ 256 = xN + 1 := by decide +kernel
theorem xN_pos : 0 < xN := by decide +kernel
theorem it_zero : ∀ k, it k 0 = 0
  | 0 => rfl
  | k + 1 => by
    show xstep (it k 0) = 0
    rw [it_zero k, xstep_zero]

theorem it_full : it xN 1 = 1 := by
  have h := Rep.pow 256 115792089237316195423570985008687907853269984665640564039457584007913129639935 rep_two (by decide +kernel)
  rw [on_full] at h
  have h2 := h.2
  rw [rep_one.2, Nat.one_mul] at h2
  exact h2.symm
theorem it_off {k : Nat} (hk : k < 2 ^ 256) (h : (ev 256 (pwX 256 2 k) 1 != 1) = true) : it k 1 ≠ 1 := by
  have h1 := (Rep.pow 256 k rep_two hk).2
  rw [Nat.one_mul] at h1
  rw [← h1]
  simpa using h

theorem Pr.of_dvd {p q : Nat} (hp : Pr p) (hq : Pr q) (h : p ∣ q) : p = q := by
  rcases hq.2 p h with h | h
  · have := hp.1
    omega
  · exact h

theorem off_prime {p c : Nat} (hp : Pr p) (h : p * c = xN) : it c 1 ≠ 1 := by
  have hd : p ∣ 3 * (5 * (17 * (257 * (641 * (65537 * (274177 * (6700417 * (67280421310721 * (59649589127497217 * (5704689200685129054721)))))))))) := ⟨c, by rw [h]; decide +kernel⟩
  have key : ∀ {q k : Nat}, Pr q → p ∣ q → q * k = xN → k < 2 ^ 256 → (ev 256 (pwX 256 2 k) 1 != 1) = true → it c 1 ≠ 1 := by
    intro q k hq hpq hk hlt hev
    have e := hp.of_dvd hq hpq
    subst e
    have : c = k := Nat.eq_of_mul_eq_mul_left hp.pos (h.trans hk.symm)
    rw [this]
    exact it_off hlt hev
  rcases hp.dvd_mul hd with h0 | hd
  · exact key pr3 h0 (k := 38597363079105398474523661669562635951089994888546854679819194669304376546645) (by decide +kernel) (by decide +kernel) off3
  rcases hp.dvd_mul hd with h1 | hd
  · exact key pr5 h1 (k := 23158417847463239084714197001737581570653996933128112807891516801582625927987) (by decide +kernel) (by decide +kernel) off5
  rcases hp.dvd_mul hd with h2 | hd
  · exact key pr17 h2 (k := 6811299366900952671974763824040465167839410862684739061144563765171360567055) (by decide +kernel) (by decide +kernel) off17
  rcases hp.dvd_mul hd with h3 | hd
  · exact key pr257 h3 (k := 450552876409790643671482431940419874915447411150352389258589821042463539455) (by decide +kernel) (by decide +kernel) off257
  rcases hp.dvd_mul hd with h4 | hd
  · exact key pr641 h4 (k := 180642884925610289272341630278764286822574079041560942339247400948382417535) (by decide +kernel) (by decide +kernel) off641
  rcases hp.dvd_mul hd with h5 | hd
  · exact key pr65537 h5 (k := 1766820105243087041267848467410591083712559083657179364930612997358944255) (by decide +kernel) (by decide +kernel) off65537
  rcases hp.dvd_mul hd with h6 | hd
  · exact key pr274177 h6 (k := 422326049367073807881663979869529201403728192611490256438204459192102655) (by decide +kernel) (by decide +kernel) off274177
  rcases hp.dvd_mul hd with h7 | hd
  · exact key pr6700417 h7 (k := 17281325809619937896935516850471830014948321076977830490170624307101055) (by decide +kernel) (by decide +kernel) off6700417
  rcases hp.dvd_mul hd with h8 | hd
  · exact key pr67280421310721 h8 (k := 1721036922503113971692907638171526209875755521904893141463060735) (by decide +kernel) (by decide +kernel) off67280421310721
  rcases hp.dvd_mul hd with h9 | hd
  · exact key pr59649589127497217 h9 (k := 1941205143757452242770874767385119893385096602219740994029055) (by decide +kernel) (by decide +kernel) off59649589127497217
  exact key pr5704689200685129054721 hd (k := 20297703374166229616474325006177763232573806344580020735) (by decide +kernel) (by decide +kernel) off5704689200685129054721

theorem full_least {k : Nat} (h : it k 1 = 1) : xN ∣ k := by
  obtain ⟨m, hm0, hPm, hall⟩ := period_dvd (fun k => it k 1 = 1) rfl (fun a b ha => by
    show it (a + b) 1 = 1 ↔ it b 1 = 1
    rw [Nat.add_comm, it_add, ha]) xN_pos it_full
  obtain ⟨c, hc⟩ := (hall xN).1 it_full
  by_cases h1 : c = 1
  · subst h1
    rw [hc, Nat.mul_one]
    exact (hall k).1 h
  · have hN := xN_pos
    have hc0 : c ≠ 0 := by
      rintro rfl
      rw [Nat.mul_zero] at hc
      omega
    obtain ⟨p, hp, d, hd⟩ := exists_prime c (by omega)
    exact absurd ((hall (m * d)).2 ⟨d, rfl⟩) (off_prime hp (by rw [hc, hd, Nat.mul_left_comm]))

theorem reach_of {N : Nat} (hN : 0 < N) (h1 : it N 1 = 1) (hmin : ∀ k, it k 1 = 1 → N ∣ k) (hsz : 2 ^ 256 = N + 1) :
    ∀ s, 0 < s → s < 2 ^ 256 → ∃ k, it k s = 1 := by
  have hnz : ∀ k, k < N → it k 1 ≠ 0 := by
    intro k hk he
    have : it (N - k + k) 1 = 0 := by rw [it_add, he, it_zero]
    rw [show N - k + k = N by omega, h1] at this
    exact absurd this (by decide)
  have hinj : ∀ j k, j < k → k < N → it j 1 ≠ it k 1 := by
    intro j k hjk hk he
    have a1 : it (N - j) (it j 1) = 1 := by rw [← it_add, show N - j + j = N by omega, h1]
    have a2 : it (N - j) (it k 1) = it (k - j) 1 := by rw [← it_add, show N - j + k = (k - j) + N by omega, it_add, h1]
    rw [he, a2] at a1
    have := Nat.le_of_dvd (by omega) (hmin _ a1)
    omega
  have hperm : ((List.range N).map (it · 1)).Perm ((List.range N).map (· + 1)) := by
    refine sub_perm _ _ ?_ ?_ (by simp)
    · have : (List.range N).Pairwise fun x y => x < y := List.pairwise_lt_range
      refine List.Pairwise.map (R := fun x y => x < y ∧ x ∈ List.range N ∧ y ∈ List.range N) _ ?_ ?_
      · rintro x y ⟨hlt, _, hy⟩
        exact hinj x y hlt (List.mem_range.1 hy)
      · refine List.Pairwise.imp_of_mem ?_ this
        intro x y hx hy hlt
        exact ⟨hlt, hx, hy⟩
    · intro x hx
      obtain ⟨k, hk, rfl⟩ := List.mem_map.1 hx
      have hk := List.mem_range.1 hk
      have := hnz k hk
      have hlt := it_lt k (s := 1) (by decide)
      rw [hsz] at hlt
      exact List.mem_map.2 ⟨it k 1 - 1, List.mem_range.2 (by omega), by omega⟩
  intro s hs0 hs
  rw [hsz] at hs
  have hm : s ∈ (List.range N).map (· + 1) := List.mem_map.2 ⟨s - 1, List.mem_range.2 (by omega), by omega⟩
  obtain ⟨k, hk, rfl⟩ := List.mem_map.1 (hperm.mem_iff.2 hm)
  have hk := List.mem_range.1 hk
  exact ⟨N - k, by rw [← it_add, show N - k + k = N by omega, h1]⟩

/-- From every state but 0 the step comes to state 1. -/
theorem xoro_reach : ∀ s, 0 < s → s < 2 ^ 256 → ∃ k, it k s = 1 := reach_of xN_pos it_full (fun k h => full_least h) xN_pow
end Go.Rt
