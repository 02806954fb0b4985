/- Loads, the greedy assignment and its bound: plain facts. -/
import Derived.Test.YtmeppemobogicaaFo
import Derived.Test.YtmeppemobogicaaSo
namespace Go.Proofs.Ytmeppemobogicaa
open Go.ChangeShapes Go.WideShapes Go.ChangeAt Go.RowKit
set_option linter.unusedVariables false
set_option linter.unusedSimpArgs false
/-! ### the greedy assignment's bound, plain -/
def lsS (f : Nat → Nat) (g : Nat → Int) (L : List Nat) (q : Nat) : Int := ((L.filter fun x => f x == q).map g).sum
def allS (f : Nat → Nat) (g : Nat → Int) (L : List Nat) (m : Nat) : Int := ((List.range m).map fun q => lsS f g L q).sum
theorem lsS_nil (f : Nat → Nat) (g : Nat → Int) (q : Nat) : lsS f g [] q = 0 := rfl
theorem lsS_append (f : Nat → Nat) (g : Nat → Int) (L M : List Nat) (q : Nat) : lsS f g (L ++ M) q = lsS f g L q + lsS f g M q := by
  simp [lsS, List.filter_append, List.sum_append]
theorem lsS_one (f : Nat → Nat) (g : Nat → Int) (x q : Nat) : lsS f g [x] q = if f x = q then g x else 0 := by
  by_cases h : f x = q <;> simp [lsS, h]
theorem sum_add' (h k : Nat → Int) (l : List Nat) : (l.map fun q => h q + k q).sum = (l.map h).sum + (l.map k).sum := by
  induction l with
  | nil => rfl
  | cons a l ih => simp only [List.map_cons, List.sum_cons, ih]; omega
theorem sum_zero' {h : Nat → Int} {l : List Nat} (hz : ∀ x ∈ l, h x = 0) : (l.map h).sum = 0 := by
  induction l with
  | nil => rfl
  | cons a l ih => rw [List.map_cons, List.sum_cons, hz a (by simp), ih (fun x hx => hz x (by simp [hx]))]; rfl
theorem sum_ite (c : Int) (y : Nat) : ∀ m, ((List.range m).map fun q => if y = q then c else 0).sum = if y < m then c else 0
  | 0 => by simp
  | m + 1 => by
    rw [List.range_succ, List.map_append, List.sum_append, sum_ite c y m]
    simp only [List.map_cons, List.map_nil, List.sum_cons, List.sum_nil]
    split <;> split <;> split <;> omega
theorem allS_eq {f : Nat → Nat} (g : Nat → Int) {m : Nat} : ∀ L : List Nat, (∀ x ∈ L, f x < m) → allS f g L m = (L.map g).sum
  | [], _ => by simp only [allS, List.map_nil, List.sum_nil]; exact sum_zero' (fun _ _ => rfl)
  | x :: L, h => by
    have ih := allS_eq g L (fun y hy => h y (by simp [hy]))
    have e : allS f g (x :: L) m = allS f g [x] m + allS f g L m := by
      simp only [allS]
      rw [← sum_add']
      congr 1
      apply List.map_congr_left
      intro q _
      exact lsS_append f g [x] L q
    have e1 : allS f g [x] m = g x := by
      simp only [allS, lsS_one]
      rw [sum_ite, if_pos (h x (by simp))]
    rw [e, e1, ih, List.map_cons, List.sum_cons]
theorem sum_le' {h : Nat → Int} {c : Int} : ∀ m : Nat, (∀ q, q < m → h q ≤ c) → ((List.range m).map h).sum ≤ m * c
  | 0, _ => by simp
  | m + 1, hb => by
    rw [List.range_succ, List.map_append, List.sum_append]
    have := sum_le' m (fun q hq => hb q (by omega))
    have h2 := hb m (by omega)
    simp only [List.map_cons, List.map_nil, List.sum_cons, List.sum_nil]
    rw [Int.natCast_add, Int.add_mul]
    omega
theorem sum_ge' {h : Nat → Int} {c : Int} : ∀ m : Nat, (∀ q, q < m → c ≤ h q) → m * c ≤ ((List.range m).map h).sum
  | 0, _ => by simp
  | m + 1, hb => by
    rw [List.range_succ, List.map_append, List.sum_append]
    have := sum_ge' m (fun q hq => hb q (by omega))
    have h2 := hb m (by omega)
    simp only [List.map_cons, List.map_nil, List.sum_cons, List.sum_nil]
    rw [Int.natCast_add, Int.add_mul]
    omega
theorem sum_nonneg' {g : Nat → Int} : ∀ L : List Nat, (∀ x ∈ L, 0 ≤ g x) → 0 ≤ (L.map g).sum
  | [], _ => by simp
  | x :: L, h => by
    have := sum_nonneg' L (fun y hy => h y (by simp [hy]))
    have := h x (by simp)
    rw [List.map_cons, List.sum_cons]; omega
/-- a list whose sum is more than what is left holds weight 2 -/
theorem weigh_ge {t : Nat → Int} {T c : Int} : ∀ J : List Nat, T - c < (J.map t).sum → c ≤ T → 2 ≤ (J.map fun x => if T < t x + c then (2 : Int) else 1).sum
  | [], h, h2 => by simp at h; omega
  | [x], h, _ => by simp at h; rw [List.map_cons, List.map_nil, List.sum_cons, List.sum_nil, if_pos (by omega)]; omega
  | x :: y :: J, _, _ => by
    have : 0 ≤ (J.map fun x => if T < t x + c then (2 : Int) else 1).sum := sum_nonneg' J (fun z _ => by split <;> omega)
    simp only [List.map_cons, List.sum_cons]
    split <;> split <;> omega
theorem weigh_le {t : Nat → Int} {T c : Int} (hc : T < 3 * c) (hc0 : 0 ≤ c) : ∀ J : List Nat, (∀ x ∈ J, c ≤ t x) → (J.map t).sum ≤ T → (J.map fun x => if T < t x + c then (2 : Int) else 1).sum ≤ 2
  | [], _, _ => by simp
  | [x], _, _ => by simp only [List.map_cons, List.map_nil, List.sum_cons, List.sum_nil]; split <;> omega
  | [x, y], h, hs => by
    have h1 := h x (by simp)
    have h2 := h y (by simp)
    simp only [List.map_cons, List.map_nil, List.sum_cons, List.sum_nil] at hs ⊢
    rw [if_neg (by omega), if_neg (by omega)]; omega
  | x :: y :: z :: J, h, hs => by
    have h1 := h x (by simp)
    have h2 := h y (by simp)
    have h3 := h z (by simp)
    have h4 := sum_nonneg' (g := t) J (fun u hu => by have := h u (by simp [hu]); omega)
    simp only [List.map_cons, List.sum_cons] at hs
    omega
theorem lsS_prefix {f : Nat → Nat} {t : Nat → Int} {P Q : List Nat} (h : ∀ x ∈ P ++ Q, 0 ≤ t x) (q : Nat) : lsS f t P q ≤ lsS f t (P ++ Q) q := by
  rw [lsS_append]
  have : 0 ≤ lsS f t Q q := sum_nonneg' _ (fun x hx => h x (by have := (List.mem_filter.1 hx).1; simp [this]))
  omega
theorem mul_cases {m : Nat} (h1 : 1 ≤ m) (h3 : m ≤ 3) {L c T : Int} (h : (m : Int) * L + c ≤ m * T) (hc : 3 * c ≤ T) : 3 * (m : Int) * (L + c) ≤ (4 * m - 1) * T := by
  have : m = 1 ∨ m = 2 ∨ m = 3 := by omega
  rcases this with rfl | rfl | rfl <;> omega
theorem mul_case2 {m : Nat} (h1 : 1 ≤ m) (h3 : m ≤ 3) {L T : Int} (hT : 0 ≤ T) (h : L ≤ T) : 3 * (m : Int) * L ≤ (4 * m - 1) * T := by
  have : m = 1 ∨ m = 2 ∨ m = 3 := by omega
  rcases this with rfl | rfl | rfl <;> omega
/-- each stop of the order got the crew with the least load -/
def GreedyA (a : Nat → Nat) (t : Nat → Int) (m : Nat) (O : List Nat) : Prop := ∀ P j Q, O = P ++ j :: Q → ∀ q, q < m → lsS a t P (a j) ≤ lsS a t P q
theorem lpt_bound {a b : Nat → Nat} {t : Nat → Int} {m : Nat} {O : List Nat} {T : Int} (h1 : 1 ≤ m) (h3 : m ≤ 3) (ht : ∀ x ∈ O, 0 ≤ t x) (hs : O.Pairwise fun x y => t y ≤ t x)
    (ha : ∀ x ∈ O, a x < m) (hb : ∀ x ∈ O, b x < m) (hg : GreedyA a t m O) (hT : ∀ q, q < m → lsS b t O q ≤ T) : ∀ q, q < m → 3 * (m : Int) * lsS a t O q ≤ (4 * m - 1) * T := by
  have hT0 : 0 ≤ T := Int.le_trans (sum_nonneg' _ (fun x hx => ht x (List.mem_filter.1 hx).1)) (hT 0 (by omega))
  have key : ∀ k, ∀ P Q, O = P ++ Q → P.length = k → ∀ q, q < m → 3 * (m : Int) * lsS a t P q ≤ (4 * m - 1) * T := by
    intro k
    induction k with
    | zero =>
      intro P Q _ hl q _
      rw [List.length_eq_zero_iff] at hl
      subst hl
      rw [lsS_nil]
      exact mul_case2 h1 h3 hT0 hT0
    | succ k ih =>
      intro P Q hO hl q hq
      obtain ⟨P', j, rfl⟩ : ∃ P' j, P = P' ++ [j] := by
        rcases List.eq_nil_or_concat P with e | ⟨P', j, e⟩
        · subst e; simp at hl
        · exact ⟨P', j, by simpa using e⟩
      have hl' : P'.length = k := by simp at hl; exact hl
      have hO' : O = P' ++ j :: Q := by rw [hO]; simp
      have ihq := ih P' (j :: Q) hO' hl'
      rw [lsS_append, lsS_one]
      by_cases e : a j = q
      · rw [if_pos e]
        have hmin := hg P' j Q hO'
        rw [e] at hmin
        have hj : 0 ≤ t j := ht j (by rw [hO']; simp)
        have hbP : ∀ q, q < m → lsS b t (P' ++ [j]) q ≤ T := fun q hq => Int.le_trans (by rw [hO]; exact lsS_prefix (by rw [← hO]; exact ht) q) (hT q hq)
        have hjT : t j ≤ T := by
          have hbj := hb j (by rw [hO']; simp)
          have h5 := hbP (b j) hbj
          rw [lsS_append, lsS_one, if_pos rfl] at h5
          have h6 : 0 ≤ lsS b t P' (b j) := sum_nonneg' _ (fun x hx => ht x (by rw [hO']; have := (List.mem_filter.1 hx).1; simp [this]))
          omega
        by_cases hc : 3 * t j ≤ T
        · have s1 := sum_ge' (h := fun q => lsS a t P' q) m hmin
          have s2 := allS_eq (f := a) t (m := m) P' (fun x hx => ha x (by rw [hO']; simp [hx]))
          have s3 := sum_le' (h := fun q => lsS b t (P' ++ [j]) q) m hbP
          have s4 := allS_eq (f := b) t (m := m) (P' ++ [j]) (fun x hx => hb x (by rw [hO]; exact List.mem_append_left _ hx))
          rw [List.map_append, List.sum_append] at s4
          simp only [List.map_cons, List.map_nil, List.sum_cons, List.sum_nil] at s4
          unfold allS at s2 s4
          exact mul_cases h1 h3 (by omega) hc
        · by_cases hbig : lsS a t P' q + t j ≤ T
          · exact mul_case2 h1 h3 hT0 hbig
          · exfalso
            have w1 := sum_ge' (h := fun q => lsS a (fun x => if T < t x + t j then (2 : Int) else 1) P' q) (c := 2) m (fun q' hq' => by
              have := hmin q' hq'
              exact weigh_ge _ (by unfold lsS at this hbig; omega) hjT)
            have w2 := allS_eq (f := a) (fun x => if T < t x + t j then (2 : Int) else 1) (m := m) P' (fun x hx => ha x (by rw [hO']; simp [hx]))
            have w3 := sum_le' (h := fun q => lsS b (fun x => if T < t x + t j then (2 : Int) else 1) (P' ++ [j]) q) (c := 2) m (fun q' hq' => by
              refine weigh_le (by omega) hj _ (fun x hx => ?_) (hbP q' hq')
              have hx := (List.mem_filter.1 hx).1
              rcases List.mem_append.1 hx with h | h
              · rw [hO', List.pairwise_append] at hs
                exact hs.2.2 x h j (by simp)
              · simp at h; subst h; exact Int.le_refl _)
            have w4 := allS_eq (f := b) (fun x => if T < t x + t j then (2 : Int) else 1) (m := m) (P' ++ [j]) (fun x hx => hb x (by rw [hO]; exact List.mem_append_left _ hx))
            rw [List.map_append, List.sum_append] at w4
            simp only [List.map_cons, List.map_nil, List.sum_cons, List.sum_nil] at w4
            unfold allS at w2 w4
            have : (1 : Int) ≤ if T < t j + t j then (2 : Int) else 1 := by split <;> omega
            omega
      · rw [if_neg e, Int.add_zero]
        exact ihq q hq
  exact key O.length O [] (by simp) rfl
/-! ### loads, plain -/
def aN (asg : List Int) (i : Nat) : Nat := (asg.getD i 0).toNat
theorem aN_at {l : List Int} {i : Nat} {x : Int} (h : l[i]? = some x) : aN l i = x.toNat := by simp [aN, List.getD_eq_getElem?_getD, h]
theorem lds_lsS {times asg : List Int} {m : Nat} (ha : ∀ (k : Nat) (c : Int), asg[k]? = some c → 0 ≤ c ∧ c < m) : ∀ k, k ≤ asg.length → k ≤ times.length → ∀ q, q < m → (ldsUp times asg m k)[q]? = some (lsS (aN asg) (tN times) (List.range k) q)
  | 0, _, _, q, hq => by simp [ldsUp, lsS, hq]
  | k + 1, h1, h2, q, hq => by
    have ih := lds_lsS (times := times) ha k (by omega) (by omega)
    have e1 := List.getElem?_eq_getElem (show k < asg.length by omega)
    have e2 := List.getElem?_eq_getElem (show k < times.length by omega)
    generalize asg[k] = c at e1
    generalize times[k] = x at e2
    have hc := ha k c e1
    rw [ldsUp_step e1 e2, List.range_succ, lsS_append, lsS_one, aN_at e1, tN_at e2, addAt, List.getElem?_set]
    have hl := ldsUp_length times asg m k
    by_cases e : c.toNat = q
    · rw [if_pos e, if_pos e, if_pos (by omega)]
      congr 2
      rw [e, List.getD_eq_getElem?_getD, ih q hq]
      rfl
    · rw [if_neg e, if_neg e, ih q hq, Int.add_zero]
theorem most_ge {l : List Int} : ∀ {j k : Nat} {x : Int}, l[k]? = some x → k < j → x ≤ mostUp l j
  | 0, _, _, _, h => absurd h (by omega)
  | j + 1, k, x, hk, h => by
    by_cases e : k = j
    · subst e
      rw [mostUp_step hk]
      split <;> omega
    · have := most_ge hk (show k < j by omega)
      unfold mostUp
      split
      · split <;> omega
      · exact this
theorem most_le {l : List Int} {c : Int} (h0 : 0 ≤ c) (h : ∀ (k : Nat) (x : Int), l[k]? = some x → x ≤ c) : ∀ j, mostUp l j ≤ c
  | 0 => h0
  | j + 1 => by
    have ih := most_le h0 h j
    unfold mostUp
    split
    · rename_i x hx
      have := h j x hx
      split <;> omega
    · exact ih
theorem lsS_perm {f : Nat → Nat} {g : Nat → Int} {L M : List Nat} (h : L.Perm M) (q : Nat) : lsS f g L q = lsS f g M q := by
  have hs : ∀ {A B : List Int}, A.Perm B → A.sum = B.sum := by
    intro A B hp
    induction hp with
    | nil => rfl
    | cons x _ ih => rw [List.sum_cons, List.sum_cons, ih]
    | swap x y l => simp only [List.sum_cons]; omega
    | trans _ _ ih1 ih2 => exact ih1.trans ih2
  exact hs ((h.filter _).map _)
theorem lsS_congr {f f' : Nat → Nat} {g : Nat → Int} {L : List Nat} (h : ∀ x ∈ L, f x = f' x) (q : Nat) : lsS f g L q = lsS f' g L q := by
  unfold lsS
  rw [List.filter_congr (fun x hx => by rw [h x hx])]
/-- the finish of an assignment -/
def finP (times : List Int) (m : Nat) (asg : List Int) : Int := mostL (ldsUp times asg m asg.length)
theorem finP_nonneg (times : List Int) (m : Nat) (asg : List Int) : 0 ≤ finP times m asg := mostUp_nonneg _ _
theorem finP_ge {times asg : List Int} {m : Nat} (ha : ∀ (k : Nat) (c : Int), asg[k]? = some c → 0 ≤ c ∧ c < m) (hl : asg.length = times.length) (q : Nat) (hq : q < m) : lsS (aN asg) (tN times) (List.range times.length) q ≤ finP times m asg := by
  have h := lds_lsS (times := times) ha asg.length (by omega) (by omega) q hq
  have := most_ge h (j := (ldsUp times asg m asg.length).length) (by rw [ldsUp_length]; exact hq)
  rw [hl] at this
  unfold finP mostL
  rw [hl]
  exact this
theorem finP_le {times asg : List Int} {m : Nat} {c : Int} (ha : ∀ (k : Nat) (c : Int), asg[k]? = some c → 0 ≤ c ∧ c < m) (hl : asg.length = times.length) (h0 : 0 ≤ c) (h : ∀ q, q < m → lsS (aN asg) (tN times) (List.range times.length) q ≤ c) : finP times m asg ≤ c := by
  refine most_le h0 (fun q x hx => ?_) _
  have hq : q < m := by have := (List.getElem?_eq_some_iff.1 hx).1; rwa [ldsUp_length] at this
  have h2 := lds_lsS (times := times) ha asg.length (by omega) (by omega) q hq
  rw [hx] at h2
  injection h2 with h2
  rw [h2, hl]
  exact h q hq
theorem sum_range (times : List Int) : ((List.range times.length).map (tN times)).sum = times.sum := by
  congr 1
  apply List.ext_getElem?
  intro i
  by_cases hi : i < times.length
  · simp [hi, tN, List.getD_eq_getElem?_getD]
  · rw [List.getElem?_eq_none (by simp; omega), List.getElem?_eq_none (by omega)]
theorem sum_le_fin {times asg : List Int} {m : Nat} (ha : ∀ (k : Nat) (c : Int), asg[k]? = some c → 0 ≤ c ∧ c < m) (hl : asg.length = times.length) : times.sum ≤ m * finP times m asg := by
  have h := sum_le' (h := fun q => lsS (aN asg) (tN times) (List.range times.length) q) m (fun q hq => finP_ge ha hl q hq)
  have h2 := allS_eq (f := aN asg) (tN times) (m := m) (List.range times.length) (fun x hx => by
    have hx := List.mem_range.1 hx
    have e := List.getElem?_eq_getElem (show x < asg.length by omega)
    generalize asg[x] = c at e
    have := ha x c e
    rw [aN_at e]
    omega)
  rw [sum_range] at h2
  unfold allS at h2
  omega
/-! ### the greedy way -/
def amUp (l : List Int) : Nat → Nat
  | 0 => 0
  | k + 1 => if l.getD k 0 < l.getD (amUp l k) 0 then k else amUp l k
theorem amUp_lt (l : List Int) : ∀ k, 0 < k → amUp l k < k
  | 0, h => absurd h (by omega)
  | 1, _ => by simp [amUp]
  | k + 2, _ => by
    have := amUp_lt l (k + 1) (by omega)
    rw [amUp]
    split <;> omega
theorem amUp_le (l : List Int) : ∀ k j, j < k → l.getD (amUp l k) 0 ≤ l.getD j 0
  | 0, _, h => absurd h (by omega)
  | k + 1, j, h => by
    rw [amUp]
    by_cases e : j = k
    · subst e
      split
      · exact Int.le_refl _
      · omega
    · have := amUp_le l k j (by omega)
      split
      · omega
      · exact this
theorem amUp_first (l : List Int) : ∀ k j, j < amUp l k → l.getD (amUp l k) 0 < l.getD j 0
  | 0, j, h => absurd h (by simp [amUp])
  | k + 1, j, h => by
    rw [amUp] at h ⊢
    split at h
    · rename_i hc
      rw [if_pos hc]
      have := amUp_le l k j h
      omega
    · rename_i hc
      rw [if_neg hc]
      exact amUp_first l k j h
def argM (l : List Int) : Nat := amUp l l.length
def gStep (t : Nat → Int) (st : List Int × List Int) (i : Nat) : List Int × List Int := (st.1.set (argM st.1) (st.1.getD (argM st.1) 0 + t i), st.2.set i (argM st.1 : Int))
def gRun (t : Nat → Int) (st : List Int × List Int) (O : List Nat) : List Int × List Int := O.foldl (gStep t) st
theorem gRun_append (t : Nat → Int) (st : List Int × List Int) (P Q : List Nat) : gRun t st (P ++ Q) = gRun t (gRun t st P) Q := List.foldl_append
theorem gRun_one (t : Nat → Int) (st : List Int × List Int) (i : Nat) : gRun t st [i] = gStep t st i := rfl
theorem gRun_len (t : Nat → Int) : ∀ (O : List Nat) (st : List Int × List Int), (gRun t st O).1.length = st.1.length ∧ (gRun t st O).2.length = st.2.length
  | [], _ => ⟨rfl, rfl⟩
  | i :: O, st => by
    have := gRun_len t O (gStep t st i)
    exact ⟨this.1.trans (by simp [gStep]), this.2.trans (by simp [gStep])⟩
theorem gRun_keep (t : Nat → Int) : ∀ (O : List Nat) (st : List Int × List Int) (y : Nat), y ∉ O → (gRun t st O).2[y]? = st.2[y]?
  | [], _, _, _ => rfl
  | i :: O, st, y, h => by
    have := gRun_keep t O (gStep t st i) y (fun hm => h (by simp [hm]))
    refine this.trans ?_
    have hne : i ≠ y := fun e => h (by simp [e])
    simp [gStep, hne]
theorem gRun_pick {t : Nat → Int} {st : List Int × List Int} {P Q : List Nat} {j : Nat} (hn : (P ++ j :: Q).Nodup) (hj : j < st.2.length) : (gRun t st (P ++ j :: Q)).2[j]? = some (argM (gRun t st P).1 : Int) := by
  have hQ : j ∉ Q := by
    have := (List.nodup_append.1 hn).2.1
    exact (List.nodup_cons.1 this).1
  rw [show P ++ j :: Q = P ++ ([j] ++ Q) by simp, gRun_append, gRun_append, gRun_keep _ _ _ _ hQ, gRun_one, gStep]
  have := (gRun_len t P st).2
  simp [this, hj]
theorem gRun_loads {t : Nat → Int} {m n : Nat} {O : List Nat} (hm : 0 < m) (hn : O.Nodup) (hO : ∀ x ∈ O, x < n) : ∀ k P Q, O = P ++ Q → P.length = k → ∀ q, q < m → (gRun t (List.replicate m 0, List.replicate n 0) P).1.getD q 0 = lsS (aN (gRun t (List.replicate m 0, List.replicate n 0) O).2) t P q := by
  intro k
  induction k with
  | zero =>
    intro P Q _ hl q hq
    rw [List.length_eq_zero_iff] at hl
    subst hl
    simp only [gRun, List.foldl_nil, lsS, List.filter_nil, List.map_nil, List.sum_nil, List.getD_eq_getElem?_getD, List.getElem?_replicate, if_pos hq, Option.getD_some]
  | succ k ih =>
    intro P Q hOP hl q hq
    obtain ⟨P', j, rfl⟩ : ∃ P' j, P = P' ++ [j] := by
      rcases List.eq_nil_or_concat P with e | ⟨P', j, e⟩
      · subst e; simp at hl
      · exact ⟨P', j, by simpa using e⟩
    have hO' : O = P' ++ j :: Q := by rw [hOP]; simp
    have ihq := ih P' (j :: Q) hO' (by simp at hl; exact hl)
    have hpick := gRun_pick (t := t) (st := (List.replicate m 0, List.replicate n 0)) (P := P') (Q := Q) (j := j) (by rw [← hO']; exact hn) (by simp; exact hO j (by rw [hO']; simp))
    rw [← hO'] at hpick
    have hlen := (gRun_len t P' (List.replicate m 0, List.replicate n 0)).1
    simp only [List.length_replicate] at hlen
    have hlt := amUp_lt (gRun t (List.replicate m 0, List.replicate n 0) P').1 m hm
    have e3 : argM (gRun t (List.replicate m 0, List.replicate n 0) P').1 < m := by unfold argM; rw [hlen]; exact hlt
    rw [lsS_append, lsS_one, aN_at hpick, Int.toNat_natCast, gRun_append, gRun_one, gStep]
    dsimp only
    rw [List.getD_eq_getElem?_getD, List.getElem?_set]
    by_cases e : argM (gRun t (List.replicate m 0, List.replicate n 0) P').1 = q
    · rw [if_pos e, if_pos e, if_pos (by omega), e, Option.getD_some, ihq q hq]
    · rw [if_neg e, if_neg e, ← List.getD_eq_getElem?_getD, ihq q hq, Int.add_zero]
theorem gRun_greedy {t : Nat → Int} {m n : Nat} {O : List Nat} (hm : 0 < m) (hn : O.Nodup) (hO : ∀ x ∈ O, x < n) : GreedyA (aN (gRun t (List.replicate m 0, List.replicate n 0) O).2) t m O := by
  intro P j Q e q hq
  have hpick := gRun_pick (t := t) (st := (List.replicate m 0, List.replicate n 0)) (P := P) (Q := Q) (j := j) (by rw [← e]; exact hn) (by simp; exact hO j (by rw [e]; simp))
  rw [← e] at hpick
  have hl := gRun_loads (t := t) hm hn hO P.length P (j :: Q) e rfl
  have hlen := (gRun_len t P (List.replicate m 0, List.replicate n 0)).1
  simp only [List.length_replicate] at hlen
  rw [aN_at hpick, Int.toNat_natCast, ← hl q hq, ← hl _ (by unfold argM; rw [hlen]; exact amUp_lt _ m hm)]
  unfold argM
  rw [hlen]
  exact amUp_le _ m q hq
theorem gRun_at {t : Nat → Int} {m n : Nat} {O : List Nat} (hm : 0 < m) : ∀ (k : Nat) (c : Int), (gRun t (List.replicate m 0, List.replicate n 0) O).2[k]? = some c → 0 ≤ c ∧ c < m := by
  have key : ∀ (O : List Nat) (st : List Int × List Int), st.1.length = m → (∀ (k : Nat) (c : Int), st.2[k]? = some c → 0 ≤ c ∧ c < m) → ∀ (k : Nat) (c : Int), (gRun t st O).2[k]? = some c → 0 ≤ c ∧ c < m := by
    intro O
    induction O with
    | nil => intro st _ h; exact h
    | cons i O ih =>
      intro st hl h
      refine ih (gStep t st i) (by simp [gStep, hl]) ?_
      intro k c hk
      simp only [gStep, List.getElem?_set] at hk
      have := amUp_lt st.1 m hm
      unfold argM at hk
      rw [hl] at hk
      split at hk
      · split at hk
        · injection hk with hk; omega
        · cases hk
      · exact h k c hk
  refine key O _ (by simp) ?_
  intro k c hk
  simp only [List.getElem?_replicate] at hk
  split at hk
  · injection hk with hk; omega
  · cases hk
/-- the greedy assignment -/
def greedyL (times : List Int) (m : Nat) : List Int := (gRun (tN times) (List.replicate m 0, List.replicate times.length 0) (ordT (tN times) times.length)).2
theorem greedyL_length (times : List Int) (m : Nat) : (greedyL times m).length = times.length := by
  have := (gRun_len (tN times) (ordT (tN times) times.length) (List.replicate m 0, List.replicate times.length 0)).2
  simpa [greedyL] using this
theorem greedyL_at {times : List Int} {m : Nat} (hm : 0 < m) : ∀ (k : Nat) (c : Int), (greedyL times m)[k]? = some c → 0 ≤ c ∧ c < m := gRun_at hm
theorem greedy_bound {times b : List Int} {m : Nat} (h1 : 1 ≤ m) (h3 : m ≤ 3) (ht : ∀ (k : Nat) (x : Int), times[k]? = some x → 0 ≤ x) (hb : ∀ (k : Nat) (c : Int), b[k]? = some c → 0 ≤ c ∧ c < m) (hl : b.length = times.length) :
    3 * (m : Int) * finP times m (greedyL times m) ≤ (4 * m - 1) * finP times m b := by
  have hperm : (ordT (tN times) times.length).Perm (List.range times.length) := (List.perm_ext_iff_of_nodup (pairwise_nodup (ordT_pairwise _ _)) List.nodup_range).2 (fun x => by rw [mem_ordT, List.mem_range])
  have hT0 := finP_nonneg times m b
  have hnn : ∀ x ∈ ordT (tN times) times.length, 0 ≤ tN times x := fun x hx => by
    have e := List.getElem?_eq_getElem (mem_ordT.1 hx)
    generalize times[x]'(mem_ordT.1 hx) = y at e
    rw [tN_at e]; exact ht x y e
  have key := lpt_bound (a := aN (greedyL times m)) (b := aN b) (t := tN times) (m := m) (O := ordT (tN times) times.length) (T := finP times m b) h1 h3 hnn
    ((ordT_pairwise (tN times) times.length).imp fun {x y} h => by simp only [befB, Bool.or_eq_true, Bool.and_eq_true, decide_eq_true_eq] at h; omega)
    (fun x hx => by
      have e := List.getElem?_eq_getElem (show x < (greedyL times m).length by rw [greedyL_length]; exact mem_ordT.1 hx)
      generalize (greedyL times m)[x]'(by rw [greedyL_length]; exact mem_ordT.1 hx) = y at e
      have := greedyL_at (by omega) x y e
      rw [aN_at e]; omega)
    (fun x hx => by
      have e := List.getElem?_eq_getElem (show x < b.length by rw [hl]; exact mem_ordT.1 hx)
      generalize b[x]'(by rw [hl]; exact mem_ordT.1 hx) = y at e
      have := hb x y e
      rw [aN_at e]; omega)
    (gRun_greedy (by omega) (pairwise_nodup (ordT_pairwise _ _)) (fun x hx => mem_ordT.1 hx))
    (fun q hq => by rw [lsS_perm hperm]; exact finP_ge hb hl q hq)
  have hc : ∃ c : Int, 0 ≤ c ∧ 3 * (m : Int) * c ≤ (4 * m - 1) * finP times m b ∧ ∀ q, q < m → lsS (aN (greedyL times m)) (tN times) (List.range times.length) q ≤ c := by
    refine ⟨finP times m (greedyL times m), finP_nonneg _ _ _, ?_, fun q hq => finP_ge (greedyL_at (by omega)) (greedyL_length _ _) q hq⟩
    -- the finish is one of the loads, or 0
    have hm : m = 1 ∨ m = 2 ∨ m = 3 := by omega
    by_cases hz : ∀ q, q < m → lsS (aN (greedyL times m)) (tN times) (List.range times.length) q ≤ ((4 * m - 1) * finP times m b) / (3 * m)
    · have h5 := finP_le (times := times) (asg := greedyL times m) (m := m) (c := ((4 * m - 1) * finP times m b) / (3 * m)) (greedyL_at (by omega)) (greedyL_length _ _) (Int.ediv_nonneg (Int.mul_nonneg (by omega) hT0) (by omega)) hz
      have h6 : 3 * (m : Int) * (((4 * m - 1) * finP times m b) / (3 * m)) ≤ (4 * m - 1) * finP times m b := Int.mul_ediv_self_le (by omega)
      have h7 := Int.mul_le_mul_of_nonneg_left h5 (show (0 : Int) ≤ 3 * m by omega)
      omega
    · exfalso
      apply hz
      intro q hq
      have h5 := key q hq
      rw [lsS_perm hperm] at h5
      rw [Int.mul_comm] at h5
      exact Int.le_ediv_of_mul_le (by omega) h5
  obtain ⟨c, h0, h5, h6⟩ := hc
  have h7 := finP_le (times := times) (asg := greedyL times m) (m := m) (c := c) (greedyL_at (by omega)) (greedyL_length _ _) h0 h6
  have h8 := Int.mul_le_mul_of_nonneg_left h7 (show (0 : Int) ≤ 3 * m by omega)
  omega
end Go.Proofs.Ytmeppemobogicaa
