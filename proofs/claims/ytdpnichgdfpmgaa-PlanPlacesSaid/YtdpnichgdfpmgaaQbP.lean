/- Plain: buffers, the least free place, the order of placing. No program in sight. -/
import Derived.Test.YtdpnichgdfpmgaaQaP
set_option linter.unusedVariables false
set_option linter.unusedSimpArgs false
namespace Go.Rt

/-- A buffer: from, to, size, place. -/
structure Buf where
  fr : Int
  tt : Int
  sz : Int
  pl : Int
instance : Inhabited Buf := ⟨⟨0, 0, 0, 0⟩⟩
def Buf.c (b : Buf) : List Value := [.int .i64 b.fr, .int .i64 b.tt, .int .i64 b.sz, .int .i64 b.pl]
/-- With a place. -/
def Buf.put (b : Buf) (p : Int) : Buf := ⟨b.fr, b.tt, b.sz, p⟩
def bufOk (b : Buf) : Bool := decide (0 ≤ b.fr) && decide (b.fr ≤ b.tt) && decide (b.tt < 1024) && decide (1 ≤ b.sz) && decide (b.sz ≤ 65536)
theorem bufOk_iff {b : Buf} : bufOk b = true ↔ 0 ≤ b.fr ∧ b.fr ≤ b.tt ∧ b.tt < 1024 ∧ 1 ≤ b.sz ∧ b.sz ≤ 65536 := by
  unfold bufOk; simp only [Bool.and_eq_true, decide_eq_true_eq]
  constructor
  · rintro ⟨⟨⟨⟨a, b⟩, c⟩, d⟩, e⟩; exact ⟨a, b, c, d, e⟩
  · rintro ⟨a, b, c, d, e⟩; exact ⟨⟨⟨⟨a, b⟩, c⟩, d⟩, e⟩
/-- Are all n of them buffers, and not too many? -/
def BufsOk (L : Nat → Buf) (n : Nat) : Prop := n ≤ 1024 ∧ ∀ i, i < n → bufOk (L i) = true
/-- In use at one node. -/
def meets (a b : Buf) : Bool := decide (a.fr ≤ b.tt) && decide (b.fr ≤ a.tt)
theorem meets_comm (a b : Buf) : meets a b = meets b a := by unfold meets; rw [Bool.and_comm]
theorem meets_iff {a b : Buf} : meets a b = true ↔ a.fr ≤ b.tt ∧ b.fr ≤ a.tt := by unfold meets; simp
/-- Does a buffer lie over [p, p + z)? -/
def ovl (c : Buf) (z p : Int) : Prop := c.pl < p + z ∧ p < c.pl + c.sz
def FreeAt (S : Buf → Prop) (z p : Int) : Prop := ∀ c, S c → ¬ ovl c z p
structure Least (S : Buf → Prop) (z p : Int) : Prop where
  nn : 0 ≤ p
  free : FreeAt S z p
  low : ∀ r, 0 ≤ r → r < p → ¬ FreeAt S z r
theorem Least.unique {S : Buf → Prop} {z p r : Int} (h : Least S z p) (k : Least S z r) : p = r := by
  have h1 : ¬ p < r := fun e => k.low p h.nn e h.free
  have h2 : ¬ r < p := fun e => h.low r k.nn e k.free
  omega
open Classical in
noncomputable def leastP (S : Buf → Prop) (z : Int) : Int := if h : ∃ p, Least S z p then Classical.choose h else 0
theorem Least.is {S : Buf → Prop} {z p : Int} (h : Least S z p) : leastP S z = p := by
  have hx : ∃ p, Least S z p := ⟨p, h⟩
  unfold leastP
  rw [dif_pos hx]
  exact (Classical.choose_spec hx).unique h
theorem Least.congr {S T : Buf → Prop} {z p : Int} (h : Least S z p) (e : ∀ c, S c ↔ T c) : Least T z p :=
  ⟨h.nn, fun c hc => h.free c ((e c).2 hc), fun r r1 r2 hf => h.low r r1 r2 fun c hc => hf c ((e c).1 hc)⟩
theorem leastP_congr {S T : Buf → Prop} (z : Int) (e : ∀ c, S c ↔ T c) : leastP S z = leastP T z := by
  have : S = T := funext fun c => propext (e c)
  rw [this]
/-- The least free place is 0 or an end. -/
theorem Least.end_ {S : Buf → Prop} {z p : Int} (h : Least S z p) (hz : 1 ≤ z) : p = 0 ∨ ∃ c, S c ∧ p = c.pl + c.sz := by
  by_cases h0 : p = 0
  · exact .inl h0
  · have h1 := h.low (p - 1) (by have := h.nn; omega) (by omega)
    refine .inr ?_
    apply Classical.byContradiction
    intro hn
    refine h1 fun c hc ho => ?_
    have h2 := h.free c hc
    unfold ovl at ho h2
    exact hn ⟨c, hc, by omega⟩

/-! One pass over buffers by rising places -/
def atJ (T : Nat → Buf) : Nat → Int
  | 0 => 0
  | j + 1 => if atJ T j < (T j).pl + (T j).sz then (T j).pl + (T j).sz else atJ T j
theorem atJ_nn (T : Nat → Buf) : ∀ j, 0 ≤ atJ T j
  | 0 => Int.le_refl 0
  | j + 1 => by have := atJ_nn T j; unfold atJ; split <;> omega
theorem atJ_step (T : Nat → Buf) (j : Nat) : atJ T j ≤ atJ T (j + 1) ∧ (T j).pl + (T j).sz ≤ atJ T (j + 1) := by
  rw [atJ]; split <;> omega
theorem atJ_mono (T : Nat → Buf) : ∀ (j i : Nat), i ≤ j → atJ T i ≤ atJ T j
  | 0, i, h => by rw [show i = 0 by omega]; exact Int.le_refl _
  | j + 1, i, h => by
    by_cases e : i = j + 1
    · rw [e]; exact Int.le_refl _
    · exact Int.le_trans (atJ_mono T j i (by omega)) (atJ_step T j).1
theorem atJ_end (T : Nat → Buf) (j i : Nat) (h : i < j) : (T i).pl + (T i).sz ≤ atJ T j := Int.le_trans (atJ_step T i).2 (atJ_mono T j (i + 1) h)
theorem atJ_le (T : Nat → Buf) {M : Int} (h0 : 0 ≤ M) : ∀ j, (∀ i, i < j → (T i).pl + (T i).sz ≤ M) → atJ T j ≤ M
  | 0, _ => h0
  | j + 1, h => by
    have h1 := atJ_le T h0 j fun i hi => h i (by omega)
    have h2 := h j (by omega)
    rw [atJ]; split <;> omega
/-- Nothing has been found so far. -/
def Pass (T : Nat → Buf) (z : Int) (j : Nat) : Prop := ∀ i, i < j → (T i).pl ≤ atJ T i ∨ (T i).pl - atJ T i < z
theorem Pass.zero (T : Nat → Buf) (z : Int) : Pass T z 0 := fun i h => absurd h (by omega)
theorem Pass.next {T : Nat → Buf} {z : Int} {j : Nat} (h : Pass T z j) (h1 : (T j).pl ≤ atJ T j ∨ (T j).pl - atJ T j < z) : Pass T z (j + 1) := fun i hi => by
  by_cases e : i = j
  · rw [e]; exact h1
  · exact h i (by omega)
theorem Pass.cover {T : Nat → Buf} {z : Int} : ∀ (j : Nat), Pass T z j → 1 ≤ z → ∀ r, 0 ≤ r → r < atJ T j → ∃ i, i < j ∧ ovl (T i) z r
  | 0, _, _, r, h1, h2 => absurd h2 (by rw [atJ]; omega)
  | j + 1, h, hz, r, h1, h2 => by
    by_cases c : r < atJ T j
    · obtain ⟨i, hi, ho⟩ := Pass.cover j (fun i hi => h i (by omega)) hz r h1 c
      exact ⟨i, by omega, ho⟩
    · have h3 := h j (by omega)
      rw [atJ] at h2
      refine ⟨j, by omega, ?_⟩
      unfold ovl
      split at h2 <;> omega
/-- A gap ahead of buffer j that is wide enough: it is the least free place. -/
theorem Pass.mid {T : Nat → Buf} {z : Int} {j n : Nat} (h : Pass T z j) (hz : 1 ≤ z) (hj : j < n) (hs : ∀ a b, a ≤ b → b < n → (T a).pl ≤ (T b).pl) (hg : z ≤ (T j).pl - atJ T j) : Least (fun c => ∃ i, i < n ∧ c = T i) z (atJ T j) := by
  refine ⟨atJ_nn T j, ?_, fun r r1 r2 hf => ?_⟩
  · rintro c ⟨i, hi, rfl⟩ ho
    unfold ovl at ho
    by_cases c1 : i < j
    · have := atJ_end T j i c1; omega
    · have := hs j i (by omega) hi; omega
  · obtain ⟨i, hi, ho⟩ := h.cover j hz r r1 r2
    exact hf (T i) ⟨i, by omega, rfl⟩ ho
/-- No gap: behind all of them. -/
theorem Pass.last {T : Nat → Buf} {z : Int} {n : Nat} (h : Pass T z n) (hz : 1 ≤ z) : Least (fun c => ∃ i, i < n ∧ c = T i) z (atJ T n) := by
  refine ⟨atJ_nn T n, ?_, fun r r1 r2 hf => ?_⟩
  · rintro c ⟨i, hi, rfl⟩ ho
    unfold ovl at ho
    have := atJ_end T n i hi; omega
  · obtain ⟨i, hi, ho⟩ := h.cover n hz r r1 r2
    exact hf (T i) ⟨i, hi, rfl⟩ ho

/-! In memory -/
/-- The cells of the first n, one after the other. -/
def flatB4 (L : Nat → Buf) : Nat → List Value
  | 0 => []
  | n + 1 => flatB4 L n ++ (L n).c
theorem flatB4_len (L : Nat → Buf) : ∀ n, (flatB4 L n).length = n * 4
  | 0 => rfl
  | n + 1 => by rw [flatB4, List.length_append, flatB4_len L n, show (L n).c.length = 4 from rfl]; omega
theorem flatB4_get (L : Nat → Buf) : ∀ n i j v, i < n → (L i).c[j]? = some v → (flatB4 L n)[i * 4 + j]? = some v
  | 0, i, j, v, h, _ => absurd h (by omega)
  | n + 1, i, j, v, h, hv => by
    have hj : j < 4 := (List.getElem?_eq_some_iff.1 hv).1
    rw [flatB4]
    by_cases e : i < n
    · rw [List.getElem?_append_left (by rw [flatB4_len]; omega)]
      exact flatB4_get L n i j v e hv
    · obtain rfl : i = n := by omega
      rw [List.getElem?_append_right (by rw [flatB4_len]; omega), flatB4_len, show i * 4 + j - i * 4 = j by omega]
      exact hv
theorem flatB4_cong {L M : Nat → Buf} : ∀ n, (∀ i, i < n → L i = M i) → flatB4 L n = flatB4 M n
  | 0, _ => rfl
  | n + 1, e => by rw [flatB4, flatB4, flatB4_cong n (fun i hi => e i (by omega)), e n (by omega)]
theorem flatB4_at (L : Nat → Buf) (n k : Nat) (v : Value) (h : (flatB4 L n)[k]? = some v) : k / 4 < n ∧ (L (k / 4)).c[k % 4]? = some v := by
  have hk : k < n * 4 := by have := (List.getElem?_eq_some_iff.1 h).1; rw [flatB4_len] at this; exact this
  have h1 : k / 4 < n := by omega
  refine ⟨h1, ?_⟩
  have h2 : k % 4 < (L (k / 4)).c.length := Nat.mod_lt _ (by decide)
  have h3 := flatB4_get L n (k / 4) (k % 4) _ h1 (List.getElem?_eq_getElem h2)
  rw [show k / 4 * 4 + k % 4 = k by omega, h] at h3
  rw [List.getElem?_eq_getElem h2]
  exact h3.symm
theorem one_c (L : Nat → Buf) (n : Nat) : ∀ u ∈ flatB4 L n, u.oneCell' = true := by
  intro u hu
  induction n with
  | zero => simp [flatB4] at hu
  | succ n ih =>
    rw [flatB4, List.mem_append] at hu
    rcases hu with hu | hu
    · exact ih hu
    · simp [Buf.c] at hu
      rcases hu with rfl | rfl | rfl | rfl <;> rfl

/-! The order of placing -/
/-- All numbers below n, by rising keys. -/
structure Ord (key : Nat → Int) (g : Nat → Nat) (n : Nat) : Prop where
  srt : Srt key g 0 n
  lt : ∀ i, i < n → g i < n
theorem Ord.inj {key : Nat → Int} {g : Nat → Nat} {n : Nat} (h : Ord key g n) {i j : Nat} (hi : i < n) (hj : j < n) (e : g i = g j) : i = j := by
  rcases Nat.lt_trichotomy i j with c | c | c
  · have := h.srt i j (Nat.zero_le _) c hj; rw [e] at this; exact (ltk.irrefl this).elim
  · exact c
  · have := h.srt j i (Nat.zero_le _) c hi; rw [e] at this; exact (ltk.irrefl this).elim
/-- As many numbers below n, all different, are all of them. -/
theorem inj_onto : ∀ (n : Nat) (g : Nat → Nat), (∀ i, i < n → g i < n) → (∀ i j, i < n → j < n → g i = g j → i = j) → ∀ v, v < n → ∃ i, i < n ∧ g i = v
  | 0, _, _, _, v, h => absurd h (by omega)
  | n + 1, g, h1, h2, v, hv => by
    by_cases hx : ∃ i, i < n + 1 ∧ g i = v
    · exact hx
    · exfalso
      -- no number is v: send n to v's place
      let f : Nat → Nat := fun i => if g i = n then v else g i
      have hn : ∀ i, i < n + 1 → g i ≠ v := fun i hi e => hx ⟨i, hi, e⟩
      have f1 : ∀ i, i < n + 1 → f i < n := fun i hi => by
        have a := h1 i hi
        show (if g i = n then v else g i) < n
        by_cases e : g i = n
        · rw [if_pos e]
          have : v ≠ n := fun e2 => hn i hi (by rw [e, e2])
          omega
        · rw [if_neg e]; omega
      have f2 : ∀ i j, i < n + 1 → j < n + 1 → f i = f j → i = j := fun i j hi hj e => by
        have e' : (if g i = n then v else g i) = (if g j = n then v else g j) := e
        by_cases a : g i = n
        · by_cases b : g j = n
          · exact h2 i j hi hj (by rw [a, b])
          · rw [if_pos a, if_neg b] at e'; exact absurd e'.symm (hn j hj)
        · by_cases b : g j = n
          · rw [if_neg a, if_pos b] at e'; exact absurd e' (hn i hi)
          · rw [if_neg a, if_neg b] at e'; exact h2 i j hi hj e'
      obtain ⟨i, hi, e⟩ := inj_onto n f (fun i hi => f1 i (by omega)) (fun i j hi hj => f2 i j (by omega) (by omega)) (f n) (f1 n (by omega))
      have := f2 i n (by omega) (by omega) e
      omega
theorem Ord.onto {key : Nat → Int} {g : Nat → Nat} {n : Nat} (h : Ord key g n) {v : Nat} (hv : v < n) : ∃ i, i < n ∧ g i = v :=
  inj_onto n g h.lt (fun i j hi hj e => h.inj hi hj e) v hv
theorem Ord.unique {key : Nat → Int} {g f : Nat → Nat} {n : Nat} (h : Ord key g n) (k : Ord key f n) : ∀ i, i < n → g i = f i := by
  intro i
  induction i using Nat.strongRecOn with
  | ind i ih =>
    intro hi
    obtain ⟨a, ha, ea⟩ := k.onto (h.lt i hi)
    obtain ⟨b, hb, eb⟩ := h.onto (k.lt i hi)
    have a1 : ¬ a < i := fun c => by
      have := h.inj ha hi ((ih a c ha).trans ea); omega
    have b1 : ¬ b < i := fun c => by
      have := k.inj hb hi ((ih b c hb).symm.trans eb); omega
    by_cases c : a = i
    · rw [← ea, c]
    · by_cases d : b = i
      · rw [← eb, d]
      · have s1 := k.srt i a (Nat.zero_le _) (by omega) ha
        have s2 := h.srt i b (Nat.zero_le _) (by omega) hb
        rw [ea] at s1
        rw [eb] at s2
        exact (ltk.irrefl (s1.trans s2)).elim
/-- There is such an order. -/
theorem ins_place (key : Nat → Int) (f : Nat → Nat) (i : Nat) (hs : Srt key f 0 i) (hne : ∀ k, k < i → f k ≠ f i) : ∀ j, InsAt key f 0 i j → ∃ j2, InsAt key f 0 i j2 ∧ (0 < j2 → ltk key (f (j2 - 1)) (f i))
  | 0, h => ⟨0, h, fun h0 => absurd h0 (by omega)⟩
  | j + 1, h => by
    have hj := h.ji
    rcases ltk_total key (f j) (f i) with c | c | c
    · exact ⟨j + 1, h, fun _ => c⟩
    · exact absurd c (hne j (by omega))
    · exact ins_place key f i hs hne j (h.next (by omega) c)
theorem ord_ex (key : Nat → Int) : ∀ n, ∃ g, Ord key g n ∧ ∀ i, n ≤ i → g i = i
  | 0 => ⟨id, ⟨fun i j _ _ h => absurd h (by omega), fun i h => absurd h (by omega)⟩, fun _ _ => rfl⟩
  | n + 1 => by
    obtain ⟨g, h, hr⟩ := ord_ex key n
    have hn := hr n (Nat.le_refl _)
    obtain ⟨j, hj, hl⟩ := ins_place key g n h.srt (fun k hk e => by have := h.lt k hk; omega) n (InsAt.start (Nat.zero_le _) h.srt)
    have hd := hj.done (fun h0 => hl h0)
    refine ⟨insJ g n j, ⟨hd.1, fun i hi => ?_⟩, fun i hi => ?_⟩
    · obtain ⟨k, _, hk, e⟩ := hd.2.2 i (Nat.zero_le _) hi
      rw [e]
      by_cases c : k = n
      · rw [c, hn]; omega
      · have := h.lt k (by omega); omega
    · rw [hd.2.1 i (by omega)]; exact hr i (by omega)

/-! The places -/
/-- Those that have places ahead of round k and meet b. -/
def Tkn (F : Nat → Buf) (g : Nat → Nat) (k : Nat) (b : Buf) : Buf → Prop := fun c => ∃ m, m < k ∧ c = F (g m) ∧ meets c b = true
noncomputable def PS (L : Nat → Buf) (g : Nat → Nat) : Nat → Nat → Buf
  | 0, i => L i
  | k + 1, i => if i = g k then (PS L g k i).put (leastP (Tkn (PS L g k) g k (L (g k))) (L (g k)).sz) else PS L g k i
/-- The place of round k. -/
noncomputable def plK (L : Nat → Buf) (g : Nat → Nat) (k : Nat) : Int := leastP (Tkn (PS L g k) g k (L (g k))) (L (g k)).sz
noncomputable def pkK (L : Nat → Buf) (g : Nat → Nat) : Nat → Int
  | 0 => 0
  | k + 1 => if pkK L g k < plK L g k + (L (g k)).sz then plK L g k + (L (g k)).sz else pkK L g k
theorem PS_same (L : Nat → Buf) (g : Nat → Nat) : ∀ k i, (PS L g k i).fr = (L i).fr ∧ (PS L g k i).tt = (L i).tt ∧ (PS L g k i).sz = (L i).sz
  | 0, i => ⟨rfl, rfl, rfl⟩
  | k + 1, i => by
    have h := PS_same L g k i
    unfold PS
    split <;> exact h
theorem PS_at (L : Nat → Buf) (g : Nat → Nat) (k : Nat) : PS L g (k + 1) (g k) = (L (g k)).put (plK L g k) := by
  have h := PS_same L g k (g k)
  unfold PS
  rw [if_pos rfl]
  unfold plK Buf.put
  rw [h.1, h.2.1, h.2.2]
theorem PS_else (L : Nat → Buf) (g : Nat → Nat) (k i : Nat) (h : i ≠ g k) : PS L g (k + 1) i = PS L g k i := by
  rw [PS, if_neg h]
section
variable {L : Nat → Buf} {key : Nat → Int} {g : Nat → Nat} {n : Nat}
/-- What has a place keeps it. -/
theorem PS_stays (h : Ord key g n) {m : Nat} : ∀ k, m < k → k ≤ n → PS L g k (g m) = (L (g m)).put (plK L g m)
  | 0, h1, _ => absurd h1 (by omega)
  | k + 1, h1, h2 => by
    by_cases e : m = k
    · rw [e]; exact PS_at L g k
    · rw [PS_else L g k (g m) (fun e2 => e (h.inj (by omega) (by omega) e2))]
      exact PS_stays h k (by omega) (by omega)
theorem PS_not (h : Ord key g n) {i : Nat} : ∀ k, k ≤ n → (∀ m, m < k → g m ≠ i) → PS L g k i = L i
  | 0, _, _ => rfl
  | k + 1, h1, h2 => by
    rw [PS_else L g k i (fun e => h2 k (by omega) e.symm)]
    exact PS_not h k (by omega) fun m hm => h2 m (by omega)
theorem PS_cong {f : Nat → Nat} : ∀ k, (∀ i, i < k → g i = f i) → (∀ i, PS L g k i = PS L f k i)
  | 0, _, i => rfl
  | k + 1, e, i => by
    have ih := PS_cong k (fun i hi => e i (by omega))
    have hF : PS L g k = PS L f k := funext ih
    have hT : Tkn (PS L g k) g k (L (g k)) = Tkn (PS L f k) f k (L (f k)) := by
      funext c
      unfold Tkn
      rw [hF, e k (by omega)]
      apply propext
      constructor
      · rintro ⟨m, h1, h2, h3⟩; exact ⟨m, h1, by rw [h2, e m (by omega)], h3⟩
      · rintro ⟨m, h1, h2, h3⟩; exact ⟨m, h1, by rw [h2, e m (by omega)], h3⟩
    unfold PS
    rw [hT, hF, e k (by omega)]
theorem plK_cong {f : Nat → Nat} {k : Nat} (e : ∀ i, i ≤ k → g i = f i) : plK L g k = plK L f k := by
  have h1 := PS_at L g k
  have h2 := PS_at L f k
  rw [e k (Nat.le_refl _)] at h1
  rw [PS_cong (k + 1) (fun i hi => e i (by omega))] at h1
  rw [h1] at h2
  have := congrArg Buf.pl h2
  exact this
theorem pkK_cong {f : Nat → Nat} : ∀ k, (∀ i, i < k → g i = f i) → pkK L g k = pkK L f k
  | 0, _ => rfl
  | k + 1, e => by
    unfold pkK
    rw [pkK_cong k (fun i hi => e i (by omega)), plK_cong (fun i hi => e i (by omega)), e k (by omega)]
end
end Go.Rt
