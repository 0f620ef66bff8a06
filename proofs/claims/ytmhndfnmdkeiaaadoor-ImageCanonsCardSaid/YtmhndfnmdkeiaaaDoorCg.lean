/- The two Canons answer the same, in plain Lean. No condition. -/
import Derived.Test.YtmhndfnmdkeiaaaDoorCf
namespace Go.Proofs.YtmhndfnmdkeiaaaDoor
open Go.RowKit Go.Proofs.YtmhndfnmdkeiaaaDoorW.PrintWords Go.Proofs.YtmhndfnmdkeiaaaDoorW.PrintLast Go.Proofs.YtmhndfnmdkeiaaaDoorW.PrintMore
open KitW PEqual
namespace Cn
set_option linter.unusedVariables false
set_option linter.unusedSimpArgs false
theorem kA_le : ∀ i : Fin 29, kAl.getD i 0 ≤ 262143 := by decide
theorem vr_zero {op a b : Int} (h : vr op a b = 0) : kn op = true ∧ 0 ≤ a ∧ a ≤ 262143 := by
  unfold vr at h
  by_cases hv : vl op a b = true
  · unfold vl wi at hv
    simp only [Bool.and_eq_true, decide_eq_true_eq] at hv
    obtain ⟨⟨hk, h0, h1⟩, _⟩ := hv
    have k0 := kn_le hk
    have k1 := kn_lt hk
    have := kA_le ⟨op.toNat, by omega⟩
    unfold kA at h1
    rw [hk] at h1
    simp only [if_true] at h1
    exact ⟨hk, h0, by simp only at this; omega⟩
  · rw [if_neg hv] at h
    cases h
theorem step_eq (m0 m1 m2 : Nat) (ce s last i : Int) (x : S56) : stepB m0 m1 m2 ce s last i x = stepC m0 m1 m2 ce s last i x := by
  unfold stepB stepC
  by_cases h : vr x.f0 x.f1 x.f2 = 0
  · obtain ⟨_, h0, h1⟩ := vr_zero h
    congr 1
    unfold insB bnd
    by_cases e1 : x.f0 = 1
    · rw [if_pos e1, if_pos e1]
    rw [if_neg e1, if_neg e1]
    by_cases e3 : x.f0 = 3
    · rw [if_pos e3, if_pos e3]
    rw [if_neg e3, if_neg e3]
    by_cases e28 : x.f0 = 28
    · rw [if_pos e28, if_pos e28]
    rw [if_neg e28, if_neg e28]
    by_cases e4 : x.f0 = 4
    · rw [if_pos e4, if_pos e4]
    rw [if_neg e4, if_neg e4]
    by_cases e5 : x.f0 = 5
    · rw [if_pos e5, if_pos e5]
    rw [if_neg e5, if_neg e5]
    by_cases e6 : x.f0 = 6
    · rw [if_pos e6, if_pos e6]
    rw [if_neg e6, if_neg e6]
    by_cases e7 : x.f0 = 7
    · rw [if_pos e7, if_pos e7]
    rw [if_neg e7, if_neg e7]
    exact (decide_eq_true (by omega)).symm
  · have : (vr x.f0 x.f1 x.f2 == 0) = false := by simpa using h
    rw [this]
    rfl
theorem day_eq (m0 m1 m2 : Nat) (ce s : Int) (l : List S56) : dayB m0 m1 m2 ce s l = codeC m0 m1 m2 ce s l := by
  unfold dayB codeC
  congr 2
  funext i
  exact step_eq _ _ _ _ _ _ _ _
/-- A vector of marks and one of counts agree. -/
structure Rel (n : Int) (bs : List Bool) (cs : List Int) : Prop where
  len : bs.length = cs.length
  at_ : ∀ j : Nat, bs.getD j false = (cs.getD j 0 != 0)
  lo : ∀ j : Nat, 0 ≤ cs.getD j 0
  hi : ∀ j : Nat, cs.getD j 0 ≤ n
theorem getD_set_eq {α : Type} (l : List α) (i j : Nat) (x z : α) : (l.set i x).getD j z = if i = j ∧ i < l.length then x else l.getD j z := by
  simp only [List.getD_eq_getElem?_getD, List.getElem?_set]
  by_cases h : i = j
  · subst h
    by_cases h2 : i < l.length
    · simp [h2]
    · simp [h2, List.getElem?_eq_none (Nat.le_of_not_lt h2)]
  · simp [h]
theorem Rel.step {n : Int} {bs : List Bool} {cs : List Int} (h : Rel n bs cs) (hn : n ≤ 4611686018427387904) (k op a : Int) : Rel (n + 1) (upd k op a bs) (incl k op a cs) := by
  unfold upd incl
  rw [h.len]
  by_cases hc : op = k ∧ a < (cs.length : Int)
  · rw [if_pos hc, if_pos hc]
    have hlo := h.lo a.toNat
    have hhi := h.hi a.toNat
    have hw : wrap64 (cs.getD a.toNat 0 + 1) = cs.getD a.toNat 0 + 1 := by unfold wrap64; omega
    rw [hw]
    refine ⟨by simp [h.len], fun j => ?_, fun j => ?_, fun j => ?_⟩
    · rw [getD_set_eq, getD_set_eq, h.len]
      split
      · exact (bne_iff_ne.2 (by omega)).symm
      · exact h.at_ j
    · rw [getD_set_eq]
      split
      · omega
      · exact h.lo j
    · rw [getD_set_eq]
      split
      · omega
      · have := h.hi j; omega
  · rw [if_neg hc, if_neg hc]
    exact ⟨h.len, h.at_, h.lo, fun j => by have := h.hi j; omega⟩
theorem Rel.use {k : Int} : ∀ (l : List S56) {n : Int} {bs : List Bool} {cs : List Int}, Rel n bs cs → n + (l.length : Int) ≤ 262144 → Rel (n + (l.length : Int)) (use k l bs) (usei k l cs)
  | [], n, bs, cs, h, _ => by
    show Rel (n + ((0 : Nat) : Int)) bs cs
    simpa using h
  | x :: l, n, bs, cs, h, hn => by
    simp only [List.length_cons] at hn ⊢
    have := Rel.use (k := k) l (h.step (by omega) k x.f0 x.f1) (by omega)
    have e : n + 1 + (l.length : Int) = n + ((l.length + 1 : Nat) : Int) := by omega
    rw [e] at this
    exact this
theorem Rel.any {n : Int} {bs : List Bool} {cs : List Int} (h : Rel n bs cs) : bs.any isF = cs.any isZ := by
  rw [Bool.eq_iff_iff, List.any_eq_true, List.any_eq_true]
  constructor
  · rintro ⟨b, hb, hf⟩
    obtain ⟨j, hj, rfl⟩ := List.getElem_of_mem hb
    have hj2 : j < cs.length := by rw [← h.len]; exact hj
    refine ⟨cs[j], List.getElem_mem _, ?_⟩
    have := h.at_ j
    rw [List.getD_eq_getElem?_getD, List.getElem?_eq_getElem hj, List.getD_eq_getElem?_getD, List.getElem?_eq_getElem hj2] at this
    simp only [Option.getD_some] at this
    unfold isF at hf
    unfold isZ
    rw [this] at hf
    simpa using hf
  · rintro ⟨c, hc, hf⟩
    obtain ⟨j, hj, rfl⟩ := List.getElem_of_mem hc
    have hj2 : j < bs.length := by rw [h.len]; exact hj
    refine ⟨bs[j], List.getElem_mem _, ?_⟩
    have := h.at_ j
    rw [List.getD_eq_getElem?_getD, List.getElem?_eq_getElem hj2, List.getD_eq_getElem?_getD, List.getElem?_eq_getElem hj] at this
    simp only [Option.getD_some] at this
    unfold isZ at hf
    unfold isF
    rw [this]
    simpa using hf
theorem Rel.start (m : Nat) : Rel 0 (List.replicate m false) (List.replicate m 0) := by
  have h0 : ∀ j : Nat, (List.replicate m (0 : Int)).getD j 0 = 0 := fun j => by
    rw [List.getD_eq_getElem?_getD, List.getElem?_replicate]
    split <;> rfl
  refine ⟨by simp, fun j => ?_, fun j => by rw [h0]; omega, fun j => by rw [h0]; omega⟩
  rw [h0, List.getD_eq_getElem?_getD, List.getElem?_replicate]
  split <;> rfl
def finI : Option (List Bool × List Bool × List Bool) → Int
  | none => 121
  | some (d0, d1, d2) => if d0.any isF = true then 121 else if d1.any isF = true then 121 else if d2.any isF = true then 121 else 0
def finR : Option (Int × List Int × List Int × List Int) → Int
  | none => 121
  | some (n, d0, d1, d2) => if d0.any isZ = true then 121 else if d1.any isZ = true then 121 else if d2.any isZ = true then 121 else if 262144 < n then 121 else 0
theorem finR_much (m0 m1 m2 : Nat) (h ce s : Int) : ∀ (ds : List S54) (last n : Int) (c0 c1 c2 : List Int), 262144 < n → finR (cnR m0 m1 m2 h ce s ds last n c0 c1 c2) = 121
  | [], last, n, c0, c1, c2, hn => by
    unfold cnR finR
    simp only
    rw [if_pos hn]
    split
    · rfl
    split
    · rfl
    split <;> rfl
  | d :: ds, last, n, c0, c1, c2, hn => by
    unfold cnR
    split
    · exact finR_much m0 m1 m2 h ce s ds _ _ _ _ _ (by omega)
    · rfl
theorem fin_eq (m0 m1 m2 : Nat) (h ce s : Int) : ∀ (ds : List S54) (last n : Int) (b0 b1 b2 : List Bool) (c0 c1 c2 : List Int), -1 ≤ last → 0 ≤ n → n ≤ 262144 → Rel n b0 c0 → Rel n b1 c1 → Rel n b2 c2 →
    finI (cnI m0 m1 m2 h ce s ds n last b0 b1 b2) = finR (cnR m0 m1 m2 h ce s ds last n c0 c1 c2)
  | [], last, n, b0, b1, b2, c0, c1, c2, hl, hn, hn2, r0, r1, r2 => by
    unfold cnI cnR finI finR
    simp only
    rw [r0.any, r1.any, r2.any, if_neg (show ¬ 262144 < n from by omega)]
  | d :: ds, last, n, b0, b1, b2, c0, c1, c2, hl, hn, hn2, r0, r1, r2 => by
    unfold cnI cnR
    rw [day_eq]
    by_cases h1 : d.f0 ≤ last
    · have hA : ¬ (codeC m0 m1 m2 ce s d.f1 = true ∧ wi d.f0 h = true ∧ last < d.f0) := fun hh => by omega
      rw [if_pos h1, if_neg hA]; rfl
    rw [if_neg h1]
    by_cases h2 : h < d.f0
    · have hA : ¬ (codeC m0 m1 m2 ce s d.f1 = true ∧ wi d.f0 h = true ∧ last < d.f0) := fun hh => by have := (wi_le hh.2.1).2; omega
      rw [if_pos h2, if_neg hA]; rfl
    rw [if_neg h2]
    by_cases hc : codeC m0 m1 m2 ce s d.f1 = true
    · have hA : codeC m0 m1 m2 ce s d.f1 = true ∧ wi d.f0 h = true ∧ last < d.f0 := ⟨hc, by unfold wi; rw [Bool.and_eq_true, decide_eq_true_eq, decide_eq_true_eq]; omega, by omega⟩
      rw [if_pos hc, if_pos hA]
      by_cases h3 : 262144 < n + (d.f1.length : Int)
      · rw [if_pos h3, finR_much _ _ _ _ _ _ _ _ _ _ _ _ h3]; rfl
      · rw [if_neg h3]
        exact fin_eq m0 m1 m2 h ce s ds _ _ _ _ _ _ _ _ (by omega) (by omega) (by omega) (r0.use _ (by omega)) (r1.use _ (by omega)) (r2.use _ (by omega))
    · have hA : ¬ (codeC m0 m1 m2 ce s d.f1 = true ∧ wi d.f0 h = true ∧ last < d.f0) := fun hh => hc hh.1
      rw [if_neg hA, if_neg hc]
      split <;> rfl
theorem can_eq (l0 l1 : List ByteArray) (l2 : List Int) (h ce s st : Int) (ds : List S54) : canI l0 l1 l2 h ce s st ds = canR l0 l1 l2 h ce s st ds := by
  unfold canI canR
  split
  · exact fin_eq _ _ _ _ _ _ ds (-1) 0 _ _ _ _ _ _ (by omega) (by omega) (by omega) (Rel.start _) (Rel.start _) (Rel.start _)
  · rfl
end Cn
end Go.Proofs.YtmhndfnmdkeiaaaDoor
