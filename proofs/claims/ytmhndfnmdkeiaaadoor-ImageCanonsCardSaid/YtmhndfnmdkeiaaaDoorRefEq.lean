/- The document's comparing of programs, as printed: it answers whether all parts are the same. No condition beyond the lists' lengths. -/
import Derived.Test.YtmhndfnmdkeiaaaDoorPEqualx
import Derived.Test.YtmhndfnmdkeiaaaDoorEqs
namespace Go.Proofs.YtmhndfnmdkeiaaaDoor
open Go.RowKit Go.Proofs.YtmhndfnmdkeiaaaDoorW.PrintWords Go.Proofs.YtmhndfnmdkeiaaaDoorW.PrintLast Go.Proofs.YtmhndfnmdkeiaaaDoorW.PrintMore
open PEqual KitW EqW
namespace RefEq
set_option linter.unusedVariables false
set_option linter.unusedSimpArgs false
theorem drop_iff {α : Type} {a b : List α} {i : Nat} (d : α) (ha : i < a.length) (hb : i < b.length) : a.drop i = b.drop i ↔ (a.getD i d = b.getD i d ∧ a.drop (i + 1) = b.drop (i + 1)) := by
  rw [List.drop_eq_getElem_cons ha, List.drop_eq_getElem_cons hb, List.cons.injEq]
  simp only [List.getD_eq_getElem?_getD, List.getElem?_eq_getElem ha, List.getElem?_eq_getElem hb, Option.getD_some]
theorem wrap_up {i n : Nat} (h : i < n) (hn : n ≤ 9223372036854775807) : wrap64 ((i : Int) + 1) = ((i + 1 : Nat) : Int) := by unfold wrap64; omega
theorem toList_iff {a b : ByteArray} : a.toList = b.toList ↔ a = b := by
  refine ⟨fun h => ?_, fun h => by rw [h]⟩
  rw [ByteArray.toList_eq, ByteArray.toList_eq] at h
  exact ByteArray.ext (Array.ext' h)

theorem texts_l0 (a b : List ByteArray) (hl : a.length = b.length) (hm : a.length ≤ 9223372036854775807) (d : Nat) : ∀ i : Nat, i + d = a.length → Ev (fun k => payoffref12_sameTexts.l0 k a b (i : Int)) (decide (a.drop i = b.drop i)) := by
  induction d with
  | zero =>
    intro i hi
    refine Ev.step (f := fun _ => some (decide (a.drop i = b.drop i))) (fun k => ?_) (Ev.now _)
    simp only [payoffref12_sameTexts.l0]
    rw [if_neg (by omega), decide_eq_true (by rw [List.drop_of_length_le (by omega), List.drop_of_length_le (by omega)])]
  | succ d ih =>
    intro i hi
    have ha : i < a.length := by omega
    have hb : i < b.length := by omega
    by_cases he : a.getD i ByteArray.empty = b.getD i ByteArray.empty
    · refine Ev.step (f := fun k => payoffref12_sameTexts.l0 k a b ((i + 1 : Nat) : Int)) (fun k => ?_) ?_
      · simp only [payoffref12_sameTexts.l0]
        rw [if_pos (by omega), if_pos (by omega), if_pos (by omega), if_pos (by simp only [rdOf, Int.toNat_natCast]; rw [he]), wrap_up ha hm]
      · have := ih (i + 1) (by omega)
        rwa [show decide (a.drop (i + 1) = b.drop (i + 1)) = decide (a.drop i = b.drop i) from by rw [decide_eq_decide, drop_iff ByteArray.empty ha hb]; simp only [he, true_and]] at this
    · refine Ev.step (f := fun _ => some (decide (a.drop i = b.drop i))) (fun k => ?_) (Ev.now _)
      simp only [payoffref12_sameTexts.l0]
      rw [if_pos (by omega), if_pos (by omega), if_pos (by omega), if_neg (by simp only [rdOf, Int.toNat_natCast]; exact fun h => he (toList_iff.1 h)), decide_eq_false (by rw [drop_iff ByteArray.empty ha hb]; exact fun h => he h.1)]
theorem texts_ev (a b : List ByteArray) (hm : a.length ≤ 9223372036854775807) : Ev (fun k => payoffref12_sameTexts.f k a b) (decide (a = b)) := by
  by_cases hl : a.length = b.length
  · refine Ev.congr (f := fun k => payoffref12_sameTexts.l0 k a b ((0 : Nat) : Int)) (fun k => ?_) ?_
    · unfold payoffref12_sameTexts.f; rw [if_pos (by omega)]; rfl
    · simpa using texts_l0 a b hl hm a.length 0 (by omega)
  · refine Ev.congr (f := fun _ => some (decide (a = b))) (fun k => ?_) (Ev.now _)
    unfold payoffref12_sameTexts.f
    rw [if_neg (by omega), decide_eq_false (fun h => hl (by rw [h]))]

instance : DecidableEq S54 := fun a b => decidable_of_iff (a.f0 = b.f0 ∧ a.f1 = b.f1) ⟨fun h => by cases a; cases b; simp_all, fun h => by rw [h]; exact ⟨rfl, rfl⟩⟩
theorem seg_ext {a b : S54} (h0 : a.f0 = b.f0) (h1 : a.f1 = b.f1) : a = b := by
  cases a; cases b
  simp only at h0 h1
  rw [h0, h1]
section
variable (n0 c0 : List ByteArray) (p0 : List Int) (h0 e0 s0 t0 : Int) (d0 : List S54) (n1 c1 : List ByteArray) (p1 : List Int) (h1 e1 s1 t1 : Int) (d1 : List S54)
def fin : Bool := decide (h0 = h1) && (decide (e0 = e1) && (decide (s0 = s1) && decide (t0 = t1)))
theorem l12_ev (hl : d0.length = d1.length) (hm : d0.length ≤ 9223372036854775807) (hmc : ∀ i : Nat, (d0.getD i z54).f1.length ≤ 9223372036854775807) (d : Nat) : ∀ i : Nat, i + d = d0.length →
    Ev (fun k => payoffref12_Equal.l1 k (i : Int) n0 c0 p0 h0 e0 s0 t0 d0 n1 c1 p1 h1 e1 s1 t1 d1) (decide (d0.drop i = d1.drop i) && fin h0 e0 s0 t0 h1 e1 s1 t1) := by
  induction d with
  | zero =>
    intro i hi
    refine Ev.step (f := fun _ => some (decide (d0.drop i = d1.drop i) && fin h0 e0 s0 t0 h1 e1 s1 t1)) (fun k => ?_) (Ev.now _)
    simp only [payoffref12_Equal.l1]
    rw [if_neg (by omega), decide_eq_true (by rw [List.drop_of_length_le (by omega), List.drop_of_length_le (by omega)] : d0.drop i = d1.drop i)]
    unfold fin
    by_cases q1 : h0 = h1 <;> by_cases q2 : e0 = e1 <;> by_cases q3 : s0 = s1 <;> simp [q1, q2, q3]
    by_cases q4 : t0 = t1 <;> simp [q4]
  | succ d ih =>
    intro i hi
    have ha : i < d0.length := by omega
    have hb : i < d1.length := by omega
    have hdi := drop_iff z54 ha hb
    have r0 : rd_T54 d0 (i : Int) = d0.getD i z54 := by simp [rd_T54]
    have r1 : rd_T54 d1 (i : Int) = d1.getD i z54 := by simp [rd_T54]
    obtain ⟨x, hx⟩ : ∃ x, x = d0.getD i z54 := ⟨_, rfl⟩
    obtain ⟨y, hy⟩ : ∃ y, y = d1.getD i z54 := ⟨_, rfl⟩
    have hmx := hmc i
    rw [← hx] at r0 hdi hmx
    rw [← hy] at r1 hdi
    -- a way that ends
    have no : x ≠ y → Ev (fun _ => (some false : Option Bool)) (decide (d0.drop i = d1.drop i) && fin h0 e0 s0 t0 h1 e1 s1 t1) := fun hne => by
      rw [decide_eq_false (by rw [hdi]; exact fun h => hne h.1), Bool.false_and]
      exact Ev.now _
    have step3 : ∀ b : Bool, b = decide (x.f1.length ≠ y.f1.length) → x.f0 = y.f0 → Ev (fun k => payoffref12_Equal.j3 k (i : Int) b n0 c0 p0 h0 e0 s0 t0 d0 n1 c1 p1 h1 e1 s1 t1 d1) (decide (d0.drop i = d1.drop i) && fin h0 e0 s0 t0 h1 e1 s1 t1) := by
      intro b hb2 hf0
      by_cases hln : x.f1.length = y.f1.length
      · have hbf : b = false := by rw [hb2]; simp [hln]
        subst hbf
        refine Ev.step (f := fun k => payoffref12_Equal.l2 k (i : Int) ((0 : Nat) : Int) n0 c0 p0 h0 e0 s0 t0 d0 n1 c1 p1 h1 e1 s1 t1 d1) (fun k => by simp only [payoffref12_Equal.j3]; rw [if_neg (by simp)]; rfl) ?_
        have inner : ∀ (m j : Nat), j + m = x.f1.length → Ev (fun k => payoffref12_Equal.l2 k (i : Int) (j : Int) n0 c0 p0 h0 e0 s0 t0 d0 n1 c1 p1 h1 e1 s1 t1 d1) (decide (x.f1.drop j = y.f1.drop j) && (decide (d0.drop (i + 1) = d1.drop (i + 1)) && fin h0 e0 s0 t0 h1 e1 s1 t1)) := by
          intro m
          induction m with
          | zero =>
            intro j hj
            refine Ev.step (f := fun k => payoffref12_Equal.l1 k ((i + 1 : Nat) : Int) n0 c0 p0 h0 e0 s0 t0 d0 n1 c1 p1 h1 e1 s1 t1 d1) (fun k => ?_) ?_
            · simp only [payoffref12_Equal.l2]
              rw [r0, if_pos (by omega), if_pos (by omega), if_neg (by omega), wrap_up ha hm]
            · rw [decide_eq_true (by rw [List.drop_of_length_le (by omega), List.drop_of_length_le (by omega)] : x.f1.drop j = y.f1.drop j), Bool.true_and]
              exact ih (i + 1) (by omega)
          | succ m ihm =>
            intro j hj
            have ja : j < x.f1.length := by omega
            have jb : j < y.f1.length := by omega
            have hdj := drop_iff z56 ja jb
            have q0 : rd_T56 x.f1 (j : Int) = x.f1.getD j z56 := by simp [rd_T56]
            have q1 : rd_T56 y.f1 (j : Int) = y.f1.getD j z56 := by simp [rd_T56]
            obtain ⟨u, hu⟩ : ∃ u, u = x.f1.getD j z56 := ⟨_, rfl⟩
            obtain ⟨v, hv⟩ : ∃ v, v = y.f1.getD j z56 := ⟨_, rfl⟩
            rw [← hu] at q0 hdj
            rw [← hv] at q1 hdj
            by_cases he : u = v
            · refine Ev.step (f := fun k => payoffref12_Equal.l2 k (i : Int) ((j + 1 : Nat) : Int) n0 c0 p0 h0 e0 s0 t0 d0 n1 c1 p1 h1 e1 s1 t1 d1) (fun k => ?_) ?_
              · simp only [payoffref12_Equal.l2]
                rw [r0, r1, q0, q1, he, if_pos (by omega), if_pos (by omega), if_pos (by omega), if_pos (by omega), if_pos (by omega), if_pos (by omega), if_neg (by simp), wrap_up ja hmx]
              · have := ihm (j + 1) (by omega)
                rwa [show decide (x.f1.drop (j + 1) = y.f1.drop (j + 1)) = decide (x.f1.drop j = y.f1.drop j) from by rw [decide_eq_decide, hdj]; simp only [he, true_and]] at this
            · refine Ev.step (f := fun _ => some false) (fun k => ?_) ?_
              · simp only [payoffref12_Equal.l2]
                rw [r0, r1, q0, q1, if_pos (by omega), if_pos (by omega), if_pos (by omega), if_pos (by omega), if_pos (by omega), if_pos (by omega), if_pos]
                by_cases w0 : u.f0 = v.f0 <;> by_cases w1 : u.f1 = v.f1 <;> by_cases w2 : u.f2 = v.f2 <;> simp [w0, w1, w2]
                exact he (by cases u; cases v; simp_all)
              · rw [decide_eq_false (by rw [hdj]; exact fun h => he h.1), Bool.false_and]
                exact Ev.now _
        have := inner x.f1.length 0 (by omega)
        simp only [List.drop_zero] at this
        rwa [← Bool.and_assoc, show (decide (x.f1 = y.f1) && decide (d0.drop (i + 1) = d1.drop (i + 1))) = decide (d0.drop i = d1.drop i) from by
          rw [← Bool.decide_and, decide_eq_decide, hdi]
          exact ⟨fun h => ⟨seg_ext hf0 h.1, h.2⟩, fun h => ⟨by rw [h.1], h.2⟩⟩] at this
      · have hbt : b = true := by rw [hb2]; simp [hln]
        subst hbt
        exact Ev.step (f := fun _ => some false) (fun k => by simp only [payoffref12_Equal.j3]; rw [if_pos trivial]) (no (fun h => hln (by rw [h])))
    by_cases hf : x.f0 = y.f0
    · refine Ev.step (f := fun k => payoffref12_Equal.j3 k (i : Int) ((x.f1.length : Int) != (y.f1.length : Int)) n0 c0 p0 h0 e0 s0 t0 d0 n1 c1 p1 h1 e1 s1 t1 d1) (fun k => ?_) (step3 _ ?_ hf)
      · simp only [payoffref12_Equal.l1]
        rw [r0, r1, if_pos (by omega), if_pos (by omega), if_pos (by omega), if_pos hf]
      · by_cases hln : x.f1.length = y.f1.length
        · simp [hln]
        · have : ((x.f1.length : Int) != (y.f1.length : Int)) = true := by rw [bne_iff_ne]; omega
          rw [this]; simp [hln]
    · refine Ev.step (f := fun k => payoffref12_Equal.j3 k (i : Int) true n0 c0 p0 h0 e0 s0 t0 d0 n1 c1 p1 h1 e1 s1 t1 d1) (fun k => ?_) ?_
      · simp only [payoffref12_Equal.l1]
        rw [r0, r1, if_pos (by omega), if_pos (by omega), if_pos (by omega), if_neg hf]
      · exact Ev.step (f := fun _ => some false) (fun k => by simp only [payoffref12_Equal.j3]; rw [if_pos trivial]) (no (fun h => hf (by rw [h])))
theorem l0_ev (hlp : p0.length = p1.length) (hmp : p0.length ≤ 9223372036854775807) (hl : d0.length = d1.length) (hm : d0.length ≤ 9223372036854775807) (hmc : ∀ i : Nat, (d0.getD i z54).f1.length ≤ 9223372036854775807) (d : Nat) : ∀ i : Nat, i + d = p0.length →
    Ev (fun k => payoffref12_Equal.l0 k (i : Int) n0 c0 p0 h0 e0 s0 t0 d0 n1 c1 p1 h1 e1 s1 t1 d1) (decide (p0.drop i = p1.drop i) && (decide (d0 = d1) && fin h0 e0 s0 t0 h1 e1 s1 t1)) := by
  induction d with
  | zero =>
    intro i hi
    refine Ev.step (f := fun k => payoffref12_Equal.l1 k ((0 : Nat) : Int) n0 c0 p0 h0 e0 s0 t0 d0 n1 c1 p1 h1 e1 s1 t1 d1) (fun k => ?_) ?_
    · simp only [payoffref12_Equal.l0]
      rw [if_neg (by omega)]; rfl
    · rw [decide_eq_true (by rw [List.drop_of_length_le (by omega), List.drop_of_length_le (by omega)] : p0.drop i = p1.drop i), Bool.true_and]
      simpa using l12_ev n0 c0 p0 h0 e0 s0 t0 d0 n1 c1 p1 h1 e1 s1 t1 d1 hl hm hmc d0.length 0 (by omega)
  | succ d ih =>
    intro i hi
    have ha : i < p0.length := by omega
    have hb : i < p1.length := by omega
    have hdi := drop_iff (0 : Int) ha hb
    have r0 : rd p0 (i : Int) = p0.getD i 0 := by simp [rd]
    have r1 : rd p1 (i : Int) = p1.getD i 0 := by simp [rd]
    by_cases he : p0.getD i 0 = p1.getD i 0
    · refine Ev.step (f := fun k => payoffref12_Equal.l0 k ((i + 1 : Nat) : Int) n0 c0 p0 h0 e0 s0 t0 d0 n1 c1 p1 h1 e1 s1 t1 d1) (fun k => ?_) ?_
      · simp only [payoffref12_Equal.l0]
        rw [r0, r1, if_pos (by omega), if_pos (by omega), if_pos (by omega), if_pos he, wrap_up ha hmp]
      · have := ih (i + 1) (by omega)
        rwa [show decide (p0.drop (i + 1) = p1.drop (i + 1)) = decide (p0.drop i = p1.drop i) from by rw [decide_eq_decide, hdi]; simp only [he, true_and]] at this
    · refine Ev.step (f := fun _ => some false) (fun k => ?_) ?_
      · simp only [payoffref12_Equal.l0]
        rw [r0, r1, if_pos (by omega), if_pos (by omega), if_pos (by omega), if_neg he]
      · rw [decide_eq_false (by rw [hdi]; exact fun h => he h.1), Bool.false_and]
        exact Ev.now _
/-- Whether two programs are the same. -/
def same : Bool := decide (n0 = n1) && (decide (c0 = c1) && (decide (p0 = p1) && (decide (d0 = d1) && fin h0 e0 s0 t0 h1 e1 s1 t1)))
theorem equal_ev (hm0 : n0.length ≤ 9223372036854775807) (hm1 : c0.length ≤ 9223372036854775807) (hmp : p0.length ≤ 9223372036854775807) (hm : d0.length ≤ 9223372036854775807) (hmc : ∀ i : Nat, (d0.getD i z54).f1.length ≤ 9223372036854775807) :
    Ev (fun k => payoffref12_Equal.f k n0 c0 p0 h0 e0 s0 t0 d0 n1 c1 p1 h1 e1 s1 t1 d1) (same n0 c0 p0 h0 e0 s0 t0 d0 n1 c1 p1 h1 e1 s1 t1 d1) := by
  unfold payoffref12_Equal.f same
  refine Ev.bind (texts_ev n0 n1 hm0) (Ev.bind (texts_ev c0 c1 hm1) ?_)
  have no : Ev (fun k => payoffref12_Equal.j0 k true n0 c0 p0 h0 e0 s0 t0 d0 n1 c1 p1 h1 e1 s1 t1 d1) false := Ev.step (f := fun _ => some false) (fun k => by simp only [payoffref12_Equal.j0]; rw [if_pos trivial]) (Ev.now _)
  by_cases a0 : n0 = n1
  · rw [decide_eq_true a0]
    by_cases a1 : c0 = c1
    · rw [decide_eq_true a1]
      simp only [if_true, Bool.true_and]
      by_cases a2 : p0.length = p1.length
      · by_cases a3 : d0.length = d1.length
        · refine Ev.congr (f := fun k => payoffref12_Equal.j0 k false n0 c0 p0 h0 e0 s0 t0 d0 n1 c1 p1 h1 e1 s1 t1 d1) (fun k => by rw [if_pos (by omega), show ((d0.length : Int) != (d1.length : Int)) = false from by rw [a3]; simp]) ?_
          refine Ev.step (f := fun k => payoffref12_Equal.l0 k ((0 : Nat) : Int) n0 c0 p0 h0 e0 s0 t0 d0 n1 c1 p1 h1 e1 s1 t1 d1) (fun k => by simp only [payoffref12_Equal.j0]; rw [if_neg (by simp)]; rfl) ?_
          simpa using l0_ev n0 c0 p0 h0 e0 s0 t0 d0 n1 c1 p1 h1 e1 s1 t1 d1 a2 hmp a3 hm hmc p0.length 0 (by omega)
        · refine Ev.congr (f := fun k => payoffref12_Equal.j0 k true n0 c0 p0 h0 e0 s0 t0 d0 n1 c1 p1 h1 e1 s1 t1 d1) (fun k => by rw [if_pos (by omega), show ((d0.length : Int) != (d1.length : Int)) = true from by rw [bne_iff_ne]; omega]) ?_
          rw [decide_eq_false (fun h => a3 (by rw [h]) : d0 ≠ d1), Bool.false_and, Bool.and_false]
          exact no
      · refine Ev.congr (f := fun k => payoffref12_Equal.j0 k true n0 c0 p0 h0 e0 s0 t0 d0 n1 c1 p1 h1 e1 s1 t1 d1) (fun k => by rw [if_neg (by omega)]) ?_
        rw [decide_eq_false (fun h => a2 (by rw [h]) : p0 ≠ p1), Bool.false_and]
        exact no
    · rw [decide_eq_false a1]
      simp only [if_true, Bool.false_eq_true, if_false, Bool.false_and, Bool.and_false]
      exact no
  · rw [decide_eq_false a0]
    simp only [Bool.false_eq_true, if_false, Bool.false_and]
    exact no
end
end RefEq
end Go.Proofs.YtmhndfnmdkeiaaaDoor
