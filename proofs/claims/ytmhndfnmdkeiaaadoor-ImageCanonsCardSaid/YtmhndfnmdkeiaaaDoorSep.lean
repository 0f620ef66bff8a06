/- Words of this session's own: what a call's own memory holds, told part by part (Sep), carried over every change (Ch). No condition. -/
import Derived.Test.YtmhndfnmdkeiaaaDoorKit
set_option linter.unusedVariables false
namespace Go.Proofs.YtmhndfnmdkeiaaaDoor
namespace KitW
open Go.RowKit Go.Proofs.YtmhndfnmdkeiaaaDoorW.PrintWords Go.Proofs.YtmhndfnmdkeiaaaDoorW.PrintLast Go.Proofs.YtmhndfnmdkeiaaaDoorW.PrintMore

/-- Where the walk shall stand still. -/
structure Stop (p : Prop) : Prop where mk :: (out : p)
theorem stop {p : Prop} (h : Stop p) : p := h.out

/-- Outside S nothing has turned. -/
structure Ch (W W1 : World) (S : Nat → Prop) : Prop where
  os : W1.os = W.os
  tape : W1.tape = W.tape
  output : W1.output = W.output
  size : W.heap.size ≤ W1.heap.size
  block : ∀ k, k < W.heap.size → ¬ S k → W1.heap[k]? = W.heap[k]?
theorem Ch.refl (W : World) (S : Nat → Prop) : Ch W W S := ⟨rfl, rfl, rfl, Nat.le_refl _, fun _ _ _ => rfl⟩
theorem Ch.mono {W W1 : World} {S S' : Nat → Prop} (h : Ch W W1 S) (hS : ∀ k, S k → S' k) : Ch W W1 S' := ⟨h.os, h.tape, h.output, h.size, fun k hk hn => h.block k hk (fun hs => hn (hS k hs))⟩
theorem Ch.trans {W W1 W2 : World} {S S' : Nat → Prop} (h : Ch W W1 S) (h' : Ch W1 W2 S') (hS : ∀ k, k < W.heap.size → S' k → S k) : Ch W W2 S :=
  ⟨h'.os.trans h.os, h'.tape.trans h.tape, h'.output.trans h.output, Nat.le_trans h.size h'.size, fun k hk hn => (h'.block k (Nat.lt_of_lt_of_le hk h.size) (fun hs => hn (hS k hk hs))).trans (h.block k hk hn)⟩
theorem Ch.of_below {W W1 : World} (h : Below W.heap.size W W1) (S : Nat → Prop) : Ch W W1 S := ⟨h.os, h.tape, h.output, h.size, fun k hk _ => h.block k hk⟩
theorem Ch.of_grown {W W1 : World} {row : Option Nat} (h : W.grownBy W1 row) {S : Nat → Prop} (hS : ∀ k, row = some k → S k) : Ch W W1 S := ⟨h.os, h.tape, h.output, h.size, fun k hk hn => h.block k hk (fun e => hn (hS k e.symm))⟩
theorem Ch.setCell (W : World) (p : Addr) (u : Value) {S : Nat → Prop} (hS : S p.block) : Ch W (W.setCell p u) S :=
  ⟨rfl, rfl, rfl, by simp [World.setCell], fun k _ hn => Below.heap_setCell W p u k (fun e => hn (e ▸ hS))⟩
theorem Ch.alloc (W : World) (o : Obj) (S : Nat → Prop) : Ch W (W.alloc o) S := Ch.of_below (below_alloc (Below.refl _ _) o) S
theorem Ch.drewN (W : World) (n : Nat) (S : Nat → Prop) : Ch W (W.drewN n) S := Ch.of_below (pw_below_drewN (Below.refl _ _) n) S
theorem Ch.below {w W W1 : World} {S : Nat → Prop} {B : Nat} (hb : Below B w W) (hc : Ch W W1 S) (hB : B ≤ W.heap.size) (hS : ∀ k, S k → B ≤ k) : Below B w W1 :=
  hb.trans ⟨hc.os, hc.tape, hc.output, hc.size, fun k hk => hc.block k (by omega) (fun hs => by have := hS k hs; omega)⟩
theorem Ch.below' {w W1 : World} (hc : Ch w W1 (fun _ => False)) : Below w.heap.size w W1 := ⟨hc.os, hc.tape, hc.output, hc.size, fun k hk => hc.block k hk (fun hs => hs)⟩

theorem below_of_grown {W W1 : World} (h : W.grownBy W1 none) : Below W.heap.size W W1 := ⟨h.os, h.tape, h.output, h.size, fun k hk => h.block k hk (by simp)⟩

/-- Something that is said of some blocks of the memory alone. -/
structure Asn where
  P : World → (Nat → Prop) → Prop
  mono : ∀ {W : World} {F F' : Nat → Prop}, (∀ k, F k → F' k) → P W F → P W F'
  move : ∀ {W W1 : World} {F : Nat → Prop}, (∀ k, F k → W1.heap[k]? = W.heap[k]?) → P W F → P W1 F
  shrink : ∀ {W : World} {F : Nat → Prop}, P W F → P W (fun k => F k ∧ k < W.heap.size)
/-- A variable's, an array's, a state's block, whole. -/
def Box (g : Nat) (cs : Array Value) (t : TypeId) : Asn where
  P := fun W F => F g ∧ W.heap[g]? = some (.cells cs t (0, 0))
  mono := fun h hp => ⟨h _ hp.1, hp.2⟩
  move := fun h hp => ⟨hp.1, (h _ hp.1).trans hp.2⟩
  shrink := fun hp => ⟨⟨hp.1, blk_lt hp.2⟩, hp.2⟩
/-- A row of the call's own, with what lies in it. -/
def Row {α : Type} (d : Kd α) (e : Nat) (v : Value) (xs : List α) : Asn where
  P := fun W F => d.R e W 0 F v xs
  mono := fun h hp => Kd.R_mono hp h
  move := fun h hp => Kd.R_move hp h
  shrink := fun hp => Kd.R_mono (Kd.R_bound hp) (fun _ hk => ⟨hk.1, hk.2.2.1⟩)
/-- Nothing. -/
def Emp : Asn where
  P := fun _ _ => True
  mono := fun _ h => h
  move := fun _ h => h
  shrink := fun h => h
def Pure (p : Prop) : Asn where
  P := fun _ _ => p
  mono := fun _ h => h
  move := fun _ h => h
  shrink := fun h => h

def Sep (B : Nat) (W : World) (L : List Asn) : Prop :=
  ∃ F : Nat → Nat → Prop, (∀ i k, F i k → B ≤ k ∧ k < W.heap.size) ∧ (∀ i j k, F i k → F j k → i = j) ∧ ∀ (i : Nat) (A : Asn), L[i]? = some A → A.P W (F i)
theorem Sep.nil (B : Nat) (W : World) : Sep B W [] := ⟨fun _ _ => False, fun _ _ h => h.elim, fun _ _ _ h => h.elim, fun i A h => by simp at h⟩
theorem Sep.get {B : Nat} {W : World} {L : List Asn} (h : Sep B W L) (i : Nat) {A : Asn} (hi : L[i]? = some A) : ∃ F, A.P W F ∧ ∀ k, F k → B ≤ k ∧ k < W.heap.size := by
  obtain ⟨F, hb, hd, hP⟩ := h
  exact ⟨F i, hP i A hi, hb i⟩
/-- One part, opened: what it holds may be turned; the others stay. -/
theorem Sep.open_ {B : Nat} {W : World} {L : List Asn} (h : Sep B W L) (i : Nat) {A : Asn} (hi : L[i]? = some A) (hB : B ≤ W.heap.size) :
    ∃ F, A.P W F ∧ (∀ k, F k → B ≤ k ∧ k < W.heap.size) ∧ ∀ (A' : Asn) (W1 : World) (F' : Nat → Prop), A'.P W1 F' → (∀ k, F' k → F k ∨ W.heap.size ≤ k) → Ch W W1 F → Sep B W1 (L.set i A') := by
  obtain ⟨F, hb, hd, hP⟩ := h
  refine ⟨F i, hP i A hi, hb i, ?_⟩
  intro A' W1 F' hA' hF' hch
  refine ⟨fun j k => if j = i then F' k ∧ k < W1.heap.size else F j k, fun j k hk => ?_, fun j j' k h1 h2 => ?_, fun j A0 hj => ?_⟩
  · by_cases e : j = i
    · simp only [e, if_true] at hk
      rcases hF' k hk.1 with h0 | h0
      · exact ⟨(hb i k h0).1, hk.2⟩
      · exact ⟨by omega, hk.2⟩
    · simp only [e, if_false] at hk
      have := hb j k hk
      have := hch.size
      omega
  · by_cases e : j = i <;> by_cases e' : j' = i
    · rw [e, e']
    · simp only [e, e', if_true, if_false] at h1 h2
      rcases hF' k h1.1 with h0 | h0
      · rw [e]; exact (hd i j' k h0 h2)
      · have := hb j' k h2; omega
    · simp only [e, e', if_true, if_false] at h1 h2
      rcases hF' k h2.1 with h0 | h0
      · rw [e']; exact (hd j i k h1 h0)
      · have := hb j k h1; omega
    · simp only [e, e', if_false] at h1 h2
      exact hd j j' k h1 h2
  · by_cases e : j = i
    · subst e
      have hlt : j < L.length := (List.getElem?_eq_some_iff.1 hi).1
      rw [List.getElem?_set_self hlt] at hj
      injection hj with hj
      subst hj
      simp only [if_true]
      exact A'.shrink hA'
    · rw [List.getElem?_set_ne (fun h => e h.symm)] at hj
      simp only [e, if_false]
      refine A0.move (fun k hk => hch.block k (hb j k hk).2 (fun hs => e (hd j i k hk hs))) (hP j A0 hj)
/-- Nothing of these parts is turned. -/
theorem Sep.ch {B : Nat} {W W1 : World} {L : List Asn} (h : Sep B W L) (hch : Ch W W1 (fun _ => False)) : Sep B W1 L := by
  obtain ⟨F, hb, hd, hP⟩ := h
  exact ⟨F, fun i k hk => ⟨(hb i k hk).1, Nat.lt_of_lt_of_le (hb i k hk).2 hch.size⟩, hd, fun i A hi => A.move (fun k hk => hch.block k (hb i k hk).2 (fun hs => hs)) (hP i A hi)⟩
/-- A part more, of new memory. -/
theorem Sep.new {B : Nat} {W W1 : World} {L : List Asn} (h : Sep B W L) {A : Asn} (hB : B ≤ W.heap.size) (hch : Ch W W1 (fun _ => False)) {F' : Nat → Prop} (hA : A.P W1 F') (hF : ∀ k, F' k → W.heap.size ≤ k) : Sep B W1 (L ++ [A]) := by
  obtain ⟨G, gb, gd, gP⟩ := h
  refine ⟨fun j k => if j = L.length then F' k ∧ k < W1.heap.size else G j k, fun j k hk => ?_, fun j j' k h1 h2 => ?_, fun j A0 hj => ?_⟩
  · by_cases e : j = L.length
    · simp only [e, if_true] at hk
      have := hF k hk.1
      exact ⟨by omega, hk.2⟩
    · simp only [e, if_false] at hk
      have := gb j k hk
      have := hch.size
      omega
  · by_cases e : j = L.length <;> by_cases e' : j' = L.length
    · rw [e, e']
    · simp only [e, e', if_true, if_false] at h1 h2
      have := hF k h1.1
      have := gb j' k h2
      omega
    · simp only [e, e', if_true, if_false] at h1 h2
      have := hF k h2.1
      have := gb j k h1
      omega
    · simp only [e, e', if_false] at h1 h2
      exact gd j j' k h1 h2
  · by_cases e : j = L.length
    · subst e
      rw [List.getElem?_append_right (Nat.le_refl _), Nat.sub_self] at hj
      simp only [List.getElem?_cons_zero] at hj
      injection hj with hj
      subst hj
      simp only [if_true]
      exact A.shrink hA
    · have hlt : j < L.length := by
        have := (List.getElem?_eq_some_iff.1 hj).1
        simp at this
        omega
      rw [List.getElem?_append_left hlt] at hj
      simp only [e, if_false]
      exact A0.move (fun k hk => hch.block k (gb j k hk).2 (fun hs => hs)) (gP j A0 hj)
theorem Sep.imp {B : Nat} {W : World} {L : List Asn} (h : Sep B W L) (i : Nat) {A A' : Asn} (hi : L[i]? = some A) (hB : B ≤ W.heap.size) (hA : ∀ F, A.P W F → A'.P W F) : Sep B W (L.set i A') :=
by
  obtain ⟨F, hF, hb, hw⟩ := Sep.open_ h i hi hB
  exact hw A' W F (hA F hF) (fun k hk => .inl hk) (Ch.refl _ _)
/-- The last part is let go. -/
theorem Sep.take {B : Nat} {W : World} {L : List Asn} (h : Sep B W L) (n : Nat) : Sep B W (L.take n) := by
  obtain ⟨F, hb, hd, hP⟩ := h
  refine ⟨F, hb, hd, fun i A hi => hP i A ?_⟩
  rw [List.getElem?_take] at hi
  split at hi
  · exact hi
  · cases hi

/-- Where a walk stands: below the call's first block all is as it was; what the call's own blocks hold. -/
structure St (w W : World) (L : List Asn) : Prop where
  B : Below w.heap.size w W
  S : Sep w.heap.size W L
theorem St.start (w : World) : St w w [] := ⟨Below.refl _ _, Sep.nil _ _⟩
theorem St.le {w W : World} {L : List Asn} (h : St w W L) : w.heap.size ≤ W.heap.size := h.B.size
theorem St.ch {w W W1 : World} {L : List Asn} (h : St w W L) (hc : Ch W W1 (fun _ => False)) : St w W1 L := ⟨Ch.below h.B hc h.le (fun _ hs => hs.elim), Sep.ch h.S hc⟩
theorem St.below {w W W1 : World} {L : List Asn} (h : St w W L) (hb : Below W.heap.size W W1) : St w W1 L := St.ch h (Ch.of_below hb _)
theorem St.drawn {w W W1 : World} {L : List Asn} (h : St w W L) (hd : Drawn0 W W1) : St w W1 L := St.below h hd.below
theorem St.drew {w W : World} {L : List Asn} (h : St w W L) : St w W.drew L := St.below h (below_drew (Below.refl _ _))
theorem St.drewN {w W : World} {L : List Asn} (h : St w W L) (n : Nat) : St w (W.drewN n) L := St.below h (pw_below_drewN (Below.refl _ _) n)
theorem St.new {w W W1 : World} {L : List Asn} (h : St w W L) {A : Asn} (hb : Below W.heap.size W W1) {F' : Nat → Prop} (hA : A.P W1 F') (hF : ∀ k, F' k → W.heap.size ≤ k) : St w W1 (L ++ [A]) :=
  ⟨(St.below h hb).B, Sep.new h.S h.le (Ch.of_below hb _) hA hF⟩
theorem St.alloc {w W : World} {L : List Asn} (h : St w W L) (cs : Array Value) (t : TypeId) : St w (W.alloc (.cells cs t (0, 0))) (L ++ [Box W.heap.size cs t]) :=
  St.new h (below_alloc (Below.refl _ _) _) (F' := fun k => k = W.heap.size) ⟨rfl, blk_new _ _⟩ (fun k hk => by omega)
theorem St.open_ {w W : World} {L : List Asn} (h : St w W L) (i : Nat) {A : Asn} (hi : L[i]? = some A) :
    ∃ F, A.P W F ∧ (∀ k, F k → w.heap.size ≤ k ∧ k < W.heap.size) ∧ ∀ (A' : Asn) (W1 : World) (F' : Nat → Prop), A'.P W1 F' → (∀ k, F' k → F k ∨ W.heap.size ≤ k) → Ch W W1 F → St w W1 (L.set i A') := by
  obtain ⟨F, hF, hb, hw⟩ := h.S.open_ i hi h.le
  exact ⟨F, hF, hb, fun A' W1 F' h1 h2 h3 => ⟨Ch.below h.B h3 h.le (fun k hk => (hb k hk).1), hw A' W1 F' h1 h2 h3⟩⟩
theorem St.imp {w W : World} {L : List Asn} (h : St w W L) (i : Nat) {A A' : Asn} (hi : L[i]? = some A) (hA : ∀ F, A.P W F → A'.P W F) : St w W (L.set i A') := ⟨h.B, Sep.imp h.S i hi h.le hA⟩
theorem St.take {w W : World} {L : List Asn} (h : St w W L) (n : Nat) : St w W (L.take n) := ⟨h.B, Sep.take h.S n⟩
theorem St.box {w W : World} {L : List Asn} (h : St w W L) (i : Nat) {g : Nat} {cs : Array Value} {t : TypeId} (hi : L[i]? = some (Box g cs t)) : W.heap[g]? = some (.cells cs t (0, 0)) := by
  obtain ⟨F, hF, _⟩ := h.S.get i hi
  exact hF.2
theorem St.cell {w W : World} {L : List Asn} (h : St w W L) (i : Nat) {g : Nat} {cs : Array Value} {t : TypeId} (hi : L[i]? = some (Box g cs t)) (j : Nat) : W.cell? ⟨g, j, none⟩ = cs[j]? := blk_cell (h.box i hi) j
theorem St.frozen {w W : World} {L : List Asn} (h : St w W L) (i : Nat) {g : Nat} {cs : Array Value} {t : TypeId} (hi : L[i]? = some (Box g cs t)) (j : Nat) : W.frozen? ⟨g, j, none⟩ = false := blk_frozen (h.box i hi) j
theorem St.set {w W : World} {L : List Asn} (h : St w W L) (i : Nat) {g : Nat} {cs : Array Value} {t : TypeId} (hi : L[i]? = some (Box g cs t)) (j : Nat) (u : Value) : St w (W.setCell ⟨g, j, none⟩ u) (L.set i (Box g (cs.setIfInBounds j u) t)) :=
by
  obtain ⟨F, hp, hb, hw⟩ := h.open_ i hi
  exact hw _ _ F ⟨hp.1, blk_set hp.2 j u⟩ (fun k hk => .inl hk) (Ch.setCell _ _ _ hp.1)
theorem St.row {w W : World} {L : List Asn} (h : St w W L) (i : Nat) {α : Type} {d : Kd α} {e : Nat} {v : Value} {xs : List α} (hi : L[i]? = some (Row d e v xs)) : ∃ A c, v = .slice A xs.length c ∧ xs.length ≤ c ∧ d.C W A xs.length xs := by
  obtain ⟨F, hF, _⟩ := h.S.get i hi
  exact Kd.R_reads hF

/-- Two parts, opened: both may be turned. -/
theorem Sep.open2 {B : Nat} {W : World} {L : List Asn} (h : Sep B W L) (i j : Nat) (hij : i ≠ j) {A C : Asn} (hi : L[i]? = some A) (hj : L[j]? = some C) (hB : B ≤ W.heap.size) :
    ∃ F G, A.P W F ∧ C.P W G ∧ (∀ k, F k → B ≤ k ∧ k < W.heap.size) ∧ (∀ k, G k → B ≤ k ∧ k < W.heap.size) ∧ (∀ k, F k → G k → False) ∧
      ∀ (A' C' : Asn) (W1 : World) (F' G' : Nat → Prop), A'.P W1 F' → C'.P W1 G' → (∀ k, F' k → F k ∨ G k ∨ W.heap.size ≤ k) → (∀ k, G' k → F k ∨ G k ∨ W.heap.size ≤ k) → (∀ k, F' k → G' k → False) → Ch W W1 (fun k => F k ∨ G k) → Sep B W1 ((L.set i A').set j C') := by
  obtain ⟨F, hb, hd, hP⟩ := h
  refine ⟨F i, F j, hP i A hi, hP j C hj, hb i, hb j, fun k h1 h2 => hij (hd i j k h1 h2), ?_⟩
  intro A' C' W1 F' G' hA' hC' hF' hG' hdis hch
  let H : Nat → Nat → Prop := fun m k => if m = i then F' k ∧ k < W1.heap.size else if m = j then G' k ∧ k < W1.heap.size else F m k
  have Hi : ∀ k, H i k ↔ F' k ∧ k < W1.heap.size := fun k => by simp [H]
  have Hj : ∀ k, H j k ↔ G' k ∧ k < W1.heap.size := fun k => by simp [H, Ne.symm hij]
  have Ho : ∀ m k, m ≠ i → m ≠ j → (H m k ↔ F m k) := fun m k h1 h2 => by simp [H, h1, h2]
  have hnew : ∀ m k, m ≠ i → m ≠ j → F m k → (F i k ∨ F j k ∨ W.heap.size ≤ k) → False := by
    intro m k h1 h2 h3 h4
    rcases h4 with h4 | h4 | h4
    · exact h1 (hd m i k h3 h4)
    · exact h2 (hd m j k h3 h4)
    · have := hb m k h3; omega
  have hbase : ∀ k, (F i k ∨ F j k ∨ W.heap.size ≤ k) → B ≤ k := by
    intro k h4
    rcases h4 with h4 | h4 | h4
    · exact (hb i k h4).1
    · exact (hb j k h4).1
    · omega
  refine ⟨H, fun m k hk => ?_, fun m m' k h1 h2 => ?_, fun m A0 hm => ?_⟩
  · by_cases e : m = i
    · subst e; have := (Hi k).1 hk; exact ⟨hbase k (hF' k this.1), this.2⟩
    · by_cases e2 : m = j
      · subst e2; have := (Hj k).1 hk; exact ⟨hbase k (hG' k this.1), this.2⟩
      · have := hb m k ((Ho m k e e2).1 hk); have := hch.size; omega
  · by_cases e : m = i
    · subst e
      by_cases e' : m' = m
      · exact e'.symm
      · by_cases e2 : m' = j
        · subst e2; exact (hdis k ((Hi k).1 h1).1 ((Hj k).1 h2).1).elim
        · exact (hnew m' k e' e2 ((Ho m' k e' e2).1 h2) (hF' k ((Hi k).1 h1).1)).elim
    · by_cases e2 : m = j
      · subst e2
        by_cases e' : m' = i
        · subst e'; exact (hdis k ((Hi k).1 h2).1 ((Hj k).1 h1).1).elim
        · by_cases e3 : m' = m
          · exact e3.symm
          · exact (hnew m' k e' e3 ((Ho m' k e' e3).1 h2) (hG' k ((Hj k).1 h1).1)).elim
      · have f1 := (Ho m k e e2).1 h1
        by_cases e' : m' = i
        · subst e'; exact (hnew m k e e2 f1 (hF' k ((Hi k).1 h2).1)).elim
        · by_cases e3 : m' = j
          · subst e3; exact (hnew m k e e2 f1 (hG' k ((Hj k).1 h2).1)).elim
          · exact hd m m' k f1 ((Ho m' k e' e3).1 h2)
  · by_cases e2 : m = j
    · subst e2
      have hlt : m < (L.set i A').length := by rw [List.length_set]; exact (List.getElem?_eq_some_iff.1 hj).1
      rw [List.getElem?_set_self hlt] at hm
      injection hm with hm
      subst hm
      exact C'.mono (fun k hk => (Hj k).2 hk) (C'.shrink hC')
    · rw [List.getElem?_set_ne (fun h => e2 h.symm)] at hm
      by_cases e : m = i
      · subst e
        have hlt : m < L.length := (List.getElem?_eq_some_iff.1 hi).1
        rw [List.getElem?_set_self hlt] at hm
        injection hm with hm
        subst hm
        exact A'.mono (fun k hk => (Hi k).2 hk) (A'.shrink hA')
      · rw [List.getElem?_set_ne (fun h => e h.symm)] at hm
        refine A0.mono (fun k hk => (Ho m k e e2).2 hk) (A0.move (fun k hk => hch.block k (hb m k hk).2 (fun hs => hs.elim (fun h => e (hd m i k hk h)) (fun h => e2 (hd m j k hk h)))) (hP m A0 hm))
theorem St.open2 {w W : World} {L : List Asn} (h : St w W L) (i j : Nat) (hij : i ≠ j) {A C : Asn} (hi : L[i]? = some A) (hj : L[j]? = some C) :
    ∃ F G, A.P W F ∧ C.P W G ∧ (∀ k, F k → w.heap.size ≤ k ∧ k < W.heap.size) ∧ (∀ k, G k → w.heap.size ≤ k ∧ k < W.heap.size) ∧ (∀ k, F k → G k → False) ∧
      ∀ (A' C' : Asn) (W1 : World) (F' G' : Nat → Prop), A'.P W1 F' → C'.P W1 G' → (∀ k, F' k → F k ∨ G k ∨ W.heap.size ≤ k) → (∀ k, G' k → F k ∨ G k ∨ W.heap.size ≤ k) → (∀ k, F' k → G' k → False) → Ch W W1 (fun k => F k ∨ G k) → St w W1 ((L.set i A').set j C') := by
  obtain ⟨F, G, hF, hG, hb, hb', hd, hw⟩ := h.S.open2 i j hij hi hj h.le
  exact ⟨F, G, hF, hG, hb, hb', hd, fun A' C' W1 F' G' h1 h2 h3 h4 h5 h6 => ⟨Ch.below h.B h6 h.le (fun k hk => hk.elim (fun h => (hb k h).1) (fun h => (hb' k h).1)), hw A' C' W1 F' G' h1 h2 h3 h4 h5 h6⟩⟩

/-- A row with one element more behind its end; none: nil. -/
def tail {α : Type} (e : Nat) (d : Kd α) (z : α) : Kd (Option (List α)) where
  sz := 1
  E := e :: d.E
  K := fun w x cs => match x with
    | none => cs = [.slice none 0 0]
    | some xs => ∃ A c, cs = [.slice (some A) xs.length c] ∧ xs.length + 1 ≤ c ∧ d.C w (some A) (xs.length + 1) (xs ++ [z])
  M := fun w base ok x cs => match x with
    | none => cs = [.slice none 0 0]
    | some xs => ∃ g c, cs = [.slice (some ⟨g, 0, none⟩) xs.length c] ∧ d.R e w base ok (.slice (some ⟨g, 0, none⟩) (xs.length + 1) c) (xs ++ [z])
  K_len := by
    intro w x cs h
    cases x with
    | none => subst h; rfl
    | some xs => obtain ⟨A, c, rfl, _⟩ := h; rfl
  K_one := by
    intro w x cs h u hu
    cases x with
    | none => subst h; rw [List.mem_singleton.1 hu]; rfl
    | some xs => obtain ⟨A, c, rfl, _⟩ := h; rw [List.mem_singleton.1 hu]; rfl
  K_below := by
    intro w w1 x cs hb h
    cases x with
    | none => exact h
    | some xs => obtain ⟨A, c, rfl, hl, hr⟩ := h; exact ⟨A, c, rfl, hl, Kd.C_below hr hb⟩
  K_of_M := by
    intro w base ok x cs h
    cases x with
    | none => exact h
    | some xs =>
      obtain ⟨g, c, rfl, h⟩ := h
      obtain ⟨A, c', e1, hl, hr⟩ := Kd.R_reads h
      injection e1 with e1 e2 e3
      subst e1
      subst e3
      rw [List.length_append, List.length_singleton] at hl hr
      exact ⟨_, c, rfl, hl, hr⟩
  M_mono := by
    intro w base ok ok' x cs hok h
    cases x with
    | none => exact h
    | some xs => obtain ⟨g, c, rfl, h⟩ := h; exact ⟨g, c, rfl, Kd.R_mono h hok⟩
  M_bound := by
    intro w base ok x cs h
    cases x with
    | none => exact h
    | some xs => obtain ⟨g, c, rfl, h⟩ := h; exact ⟨g, c, rfl, Kd.R_bound h⟩
  M_move := by
    intro w w1 base ok x cs hm h
    cases x with
    | none => exact h
    | some xs => obtain ⟨g, c, rfl, h⟩ := h; exact ⟨g, c, rfl, Kd.R_move h hm⟩
  M_lower := by
    intro w base base' ok x cs hb h
    cases x with
    | none => exact h
    | some xs => obtain ⟨g, c, rfl, h⟩ := h; exact ⟨g, c, rfl, Kd.R_lower h hb⟩
/-- A value of one's own, by its kind. -/
def Val {α : Type} (d : Kd α) (cs : List Value) (x : α) : Asn where
  P := fun W F => d.M W 0 F x cs
  mono := fun h hp => d.M_mono h hp
  move := fun h hp => d.M_move h hp
  shrink := fun hp => d.M_mono (fun _ hk => ⟨hk.1, hk.2.2.1⟩) (d.M_bound hp)
theorem St.val {w W : World} {L : List Asn} (h : St w W L) (i : Nat) {α : Type} {d : Kd α} {cs : List Value} {x : α} (hi : L[i]? = some (Val d cs x)) : d.K W x cs := by
  obtain ⟨F, hF, _⟩ := h.S.get i hi
  exact d.K_of_M hF
/-- What a callee made. -/
theorem Sep.append {B B' : Nat} {W W1 : World} {L L' : List Asn} (h : Sep B W L) (hB : B ≤ W.heap.size) (hch : Ch W W1 (fun _ => False)) (h' : Sep B' W1 L') (hB' : W.heap.size ≤ B') : Sep B W1 (L ++ L') := by
  obtain ⟨F, hb, hd, hP⟩ := h
  obtain ⟨G, gb, gd, gP⟩ := h'
  refine ⟨fun i k => if i < L.length then F i k else G (i - L.length) k, fun i k hk => ?_, fun i j k h1 h2 => ?_, fun i A hi => ?_⟩
  · by_cases e : i < L.length
    · simp only [e, if_true] at hk
      have := hb i k hk
      have := hch.size
      omega
    · simp only [e, if_false] at hk
      have := gb _ k hk
      omega
  · by_cases e : i < L.length <;> by_cases e' : j < L.length
    · simp only [e, e', if_true] at h1 h2
      exact hd i j k h1 h2
    · simp only [e, e', if_true, if_false] at h1 h2
      have := hb i k h1
      have := gb _ k h2
      omega
    · simp only [e, e', if_true, if_false] at h1 h2
      have := hb j k h2
      have := gb _ k h1
      omega
    · simp only [e, e', if_false] at h1 h2
      have := gd _ _ k h1 h2
      omega
  · by_cases e : i < L.length
    · rw [List.getElem?_append_left e] at hi
      simp only [e, if_true]
      exact A.move (fun k hk => hch.block k (hb i k hk).2 (fun hs => hs)) (hP i A hi)
    · rw [List.getElem?_append_right (by omega)] at hi
      simp only [e, if_false]
      exact gP _ A hi
theorem St.call {w W W1 : World} {L L' : List Asn} (h : St w W L) (h' : St W W1 L') : St w W1 (L ++ L') :=
  ⟨(h.below h'.B).B, Sep.append h.S h.le (Ch.of_below h'.B _) h'.S (Nat.le_refl _)⟩

theorem St.add {w W : World} {L : List Asn} (h : St w W L) {A : Asn} (hA : A.P W (fun _ => False)) : St w W (L ++ [A]) := St.new h (Below.refl _ _) hA (fun _ hk => hk.elim)
theorem R_form {α : Type} {d : Kd α} {e : Nat} {W : World} {base : Nat} {ok : Nat → Prop} {v : Value} {xs : List α} (h : d.R e W base ok v xs) (hx : 0 < xs.length) : ∃ g c, v = .slice (some ⟨g, 0, none⟩) xs.length c ∧ xs.length ≤ c := by
  obtain ⟨_, inner, ho, _⟩ := h
  obtain ⟨g, cap, rfl, h1, h2⟩ := ho.form hx
  exact ⟨g, cap, rfl, own_le ho⟩
theorem St.form {w W : World} {L : List Asn} (h : St w W L) (i : Nat) {α : Type} {d : Kd α} {e : Nat} {v : Value} {xs : List α} (hi : L[i]? = some (Row d e v xs)) (hx : 0 < xs.length) : ∃ g c, v = .slice (some ⟨g, 0, none⟩) xs.length c ∧ xs.length ≤ c := by
  obtain ⟨F, hF, _⟩ := h.S.get i hi
  exact R_form hF hx
/-- A list that may be nil. -/
def nl {α : Type} (A : Option Addr) (l : List α) : Option (List α) := A.map fun _ => l
theorem nl_none {α : Type} (l : List α) : nl none l = none := rfl
theorem nl_some {α : Type} (a : Addr) (l : List α) : nl (some a) l = some l := rfl

theorem tail_of_row {α : Type} {e : Nat} {d : Kd α} {z : α} {l : List α} {g c n : Nat} (hn : l.length = n) {W : World} {F : Nat → Prop}
    (h : (Row d e (.slice (some ⟨g, 0, none⟩) (l ++ [z]).length c) (l ++ [z])).P W F) : (Val (tail e d z) [.slice (some ⟨g, 0, none⟩) n c] (some l)).P W F := by
  subst hn
  refine ⟨g, c, rfl, ?_⟩
  have h' : d.R e W 0 F (.slice (some ⟨g, 0, none⟩) (l ++ [z]).length c) (l ++ [z]) := h
  rw [List.length_append, List.length_singleton] at h'
  exact h'
/-- A slice's value that is read, nil told from empty. -/
def nrd {α : Type} (d : Kd α) (w : World) (v : Value) (x : Option (List α)) : Prop :=
  match x with
  | none => v = .slice none 0 0
  | some l => ∃ A c, v = .slice (some A) l.length c ∧ l.length ≤ c ∧ d.C w (some A) l.length l
theorem nrd.below {α : Type} {d : Kd α} {w w1 : World} {v : Value} {x : Option (List α)} (h : nrd d w v x) (hb : Below w.heap.size w w1) : nrd d w1 v x := by
  cases x with
  | none => exact h
  | some l => obtain ⟨A, c, rfl, hl, hr⟩ := h; exact ⟨A, c, rfl, hl, Kd.C_below hr hb⟩
theorem nrd.slice {α : Type} {d : Kd α} {w : World} {v : Value} {x : Option (List α)} (h : nrd d w v x) : ∃ A c, v = .slice A (x.getD []).length c ∧ (x.getD []).length ≤ c ∧ d.C w A (x.getD []).length (x.getD []) := by
  cases x with
  | none => exact ⟨none, 0, h, Nat.le_refl _, rfl, by simp, fun hn => absurd hn (by simp)⟩
  | some l => obtain ⟨A, c, rfl, hl, hr⟩ := h; exact ⟨some A, c, rfl, hl, hr⟩

theorem nrd.open_ {α : Type} {d : Kd α} {w : World} {v : Value} {x : Option (List α)} (h : nrd d w v x) :
    ∃ A c l, v = .slice A l.length c ∧ x = nl A l ∧ (A = none → l.length = 0 ∧ c = 0) ∧ d.C w A l.length l := by
  cases x with
  | none => exact ⟨none, 0, [], h, rfl, fun _ => ⟨rfl, rfl⟩, rfl, by simp, fun hn => absurd hn (by simp)⟩
  | some l => obtain ⟨A, c, rfl, hl, hr⟩ := h; exact ⟨some A, c, l, rfl, rfl, (fun h => nomatch h), hr⟩

theorem tail_slice {α : Type} {e : Nat} {d : Kd α} {z : α} {w : World} {x : Option (List α)} {v : Value} (h : (tail e d z).K w x [v]) : ∃ A n c, v = .slice A n c := by
  cases x with
  | none => injection (h : [v] = [.slice none 0 0]) with h; exact ⟨_, _, _, h⟩
  | some l => obtain ⟨A, c, h, _⟩ := h; injection h with h; exact ⟨_, _, _, h⟩

/-- The first parts are let go. -/
theorem Sep.drop {B : Nat} {W : World} {L : List Asn} (h : Sep B W L) (n : Nat) : Sep B W (L.drop n) := by
  obtain ⟨F, hb, hd, hP⟩ := h
  refine ⟨fun i k => F (n + i) k, fun i k hk => hb _ k hk, fun i j k h1 h2 => by have := hd _ _ k h1 h2; omega, fun i A hi => hP (n + i) A ?_⟩
  rwa [List.getElem?_drop] at hi
theorem St.drop {w W : World} {L : List Asn} (h : St w W L) (n : Nat) : St w W (L.drop n) := ⟨h.B, Sep.drop h.S n⟩

section
variable {P : Program} {ops : Array Oper} {rest : List Oper} {o : Oper} {a : Act} {Q : Exit → Act → World → Prop} {Kc : Act → World → Prop} {α : Type}
/-- make([]T, 0, n) -/
theorem st_makeCap (d : Kd α) {w W : World} {L : List Asn} (h0 : St w W L) (e : Nat) (hgd : o.guard = none) {N : Tmp} (hd : o.dst = some N) (t : TypeId) (x y : Operand) (ho : o.op = .makeSlice t x y) (n : Int) (hx : a.eval x = .int .i64 0) (hy : a.eval y = .int .i64 n)
    (ht : P.underlying t = some (.slice e)) (z : Value) (bytes : Nat) (hinfo : (P.info? e).map (fun i => (i.zero, i.size, i.bytes)) = some (some z, d.sz, bytes)) (hs0 : 0 < d.sz) (hb0 : 0 < bytes) (hn0 : 0 ≤ n) (hl : n.toNat * bytes ≤ 281474976710656)
    (h : ∀ v1 W1, St w W1 (L ++ [Row d e v1 []]) → wpList P ops Q rest (a.put o.dst v1) W1) : wpList P ops Q (o :: rest) a W := by
  refine makeCap_list (ok := fun k => k = W.heap.size) d (w0 := W) 0 e hgd hd t x y ho n hx hy ht z bytes hinfo hs0 hb0 rfl hn0 hl (Below.refl _ _) (Nat.zero_le _) ?_
  intro v1 W1 hR hB hg hat
  exact h v1 W1 (St.new h0 (below_of_grown hg) hR (fun k hk => by omega))
theorem st_makeCap_step (d : Kd α) {w W : World} {L : List Asn} (h0 : St w W L) (e : Nat) (hw : Region.wanted o (yielded ops a.tmps) = true) {N : Tmp} (hd : o.dst = some N) (t : TypeId) (x y : Operand) (ho : o.op = .makeSlice t x y) (n : Int) (hx : a.eval x = .int .i64 0) (hy : a.eval y = .int .i64 n)
    (ht : P.underlying t = some (.slice e)) (z : Value) (bytes : Nat) (hinfo : (P.info? e).map (fun i => (i.zero, i.size, i.bytes)) = some (some z, d.sz, bytes)) (hs0 : 0 < d.sz) (hb0 : 0 < bytes) (hn0 : 0 ≤ n) (hl : n.toNat * bytes ≤ 281474976710656)
    (h : ∀ v1 W1, St w W1 (L ++ [Row d e v1 []]) → Kc (a.put o.dst v1) W1) : if Region.wanted o (yielded ops a.tmps) = true then Oper.wp P o a W Kc Q else Kc (a.put o.dst undef) W := by
  refine makeCap_step (ok := fun k => k = W.heap.size) d (w0 := W) 0 e hw hd t x y ho n hx hy ht z bytes hinfo hs0 hb0 rfl hn0 hl (Below.refl _ _) (Nat.zero_le _) ?_
  intro v1 W1 hR hB hg hat
  exact h v1 W1 (St.new h0 (below_of_grown hg) hR (fun k hk => by omega))
/-- append(v, x): a row of the call's own, an element without rows of its own. -/
theorem st_append (d : Kd α) {w W : World} {L : List Asn} (h0 : St w W L) (i : Nat) (hgd : o.guard = none) (s x : Operand) (t e : TypeId) (z : Value) (bytes : Nat)
    (ho : o.op = .call { callee := .builtin .append, args := #[s, x], argTypes := #[t, t] })
    (ht : P.underlying t = some (.slice e)) (hinfo : (P.info? e).map (fun i => (i.zero, i.size, i.bytes)) = some (some z, d.sz, bytes)) (hz : z.cells.size = d.sz) (hs0 : 0 < d.sz) (hb0 : 0 < bytes)
    (v : Value) (xs : List α) (p : α) (cs : List Value) (hi : L[i]? = some (Row d e v xs)) (hs : a.eval s = v) (hx : a.eval x = .slice (some ⟨W.heap.size, 0, none⟩) 1 1) (hp : d.M W 0 (fun _ => False) p cs)
    (hl : (xs.length + 1) * bytes ≤ 140737488355328)
    (h : ∀ v1 W1, St w W1 (L.set i (Row d e v1 (xs ++ [p]))) → wpList P ops Q rest (a.put o.dst v1) W1) :
    wpList P ops Q (o :: rest) a (W.alloc (.cells cs.toArray e)) := by
  obtain ⟨F, hF, hFb, hw⟩ := h0.open_ i hi
  refine Kd.R_append d (w0 := W) 0 hgd s x t e z bytes ho ht hinfo hz hs0 hb0 v xs p cs (fun k => F k ∨ W.heap.size ≤ k) (fun _ => False) hs hx hp (fun _ hk => hk.elim) (fun k hk => .inr hk) (Kd.R_mono hF (fun k hk => .inl hk)) (Below.refl _ _) (Nat.zero_le _) hl ?_
  intro v1 w1 hR hB hg hat
  exact h v1 w1 (hw _ _ _ hR (fun k hk => hk) (Ch.of_grown hg (fun k hk => hF.1 k hk)))
theorem st_append_step (d : Kd α) {w W : World} {L : List Asn} (h0 : St w W L) (i : Nat) (hwn : Region.wanted o (yielded ops a.tmps) = true) (s x : Operand) (t e : TypeId) (z : Value) (bytes : Nat)
    (ho : o.op = .call { callee := .builtin .append, args := #[s, x], argTypes := #[t, t] })
    (ht : P.underlying t = some (.slice e)) (hinfo : (P.info? e).map (fun i => (i.zero, i.size, i.bytes)) = some (some z, d.sz, bytes)) (hz : z.cells.size = d.sz) (hs0 : 0 < d.sz) (hb0 : 0 < bytes)
    (v : Value) (xs : List α) (p : α) (cs : List Value) (hi : L[i]? = some (Row d e v xs)) (hs : a.eval s = v) (hx : a.eval x = .slice (some ⟨W.heap.size, 0, none⟩) 1 1) (hp : d.M W 0 (fun _ => False) p cs)
    (hl : (xs.length + 1) * bytes ≤ 140737488355328)
    (h : ∀ v1 W1, St w W1 (L.set i (Row d e v1 (xs ++ [p]))) → Kc (a.put o.dst v1) W1) :
    if Region.wanted o (yielded ops a.tmps) = true then Oper.wp P o a (W.alloc (.cells cs.toArray e)) Kc Q else Kc (a.put o.dst undef) (W.alloc (.cells cs.toArray e)) := by
  obtain ⟨F, hF, hFb, hw⟩ := h0.open_ i hi
  refine Kd.R_append_step d (w0 := W) 0 hwn s x t e z bytes ho ht hinfo hz hs0 hb0 v xs p cs (fun k => F k ∨ W.heap.size ≤ k) (fun _ => False) hs hx hp (fun _ hk => hk.elim) (fun k hk => .inr hk) (Kd.R_mono hF (fun k hk => .inl hk)) (Below.refl _ _) (Nat.zero_le _) hl ?_
  intro v1 w1 hR hB hg hat
  exact h v1 w1 (hw _ _ _ hR (fun k hk => hk) (Ch.of_grown hg (fun k hk => hF.1 k hk)))
/-- append(v, x): the element brings a part of its own (number j) along. -/
theorem st_append_own (d : Kd α) {w W : World} {L : List Asn} (h0 : St w W L) (i j : Nat) (hij : i ≠ j) (hgd : o.guard = none) (s x : Operand) (t e : TypeId) (z : Value) (bytes : Nat)
    (ho : o.op = .call { callee := .builtin .append, args := #[s, x], argTypes := #[t, t] })
    (ht : P.underlying t = some (.slice e)) (hinfo : (P.info? e).map (fun i => (i.zero, i.size, i.bytes)) = some (some z, d.sz, bytes)) (hz : z.cells.size = d.sz) (hs0 : 0 < d.sz) (hb0 : 0 < bytes)
    (v : Value) (xs : List α) (p : α) (cs : List Value) {C : Asn} (hi : L[i]? = some (Row d e v xs)) (hj : L[j]? = some C) (hs : a.eval s = v) (hx : a.eval x = .slice (some ⟨W.heap.size, 0, none⟩) 1 1) (hp : ∀ G, C.P W G → d.M W 0 G p cs)
    (hl : (xs.length + 1) * bytes ≤ 140737488355328)
    (h : ∀ v1 W1, St w W1 ((L.set i (Row d e v1 (xs ++ [p]))).set j Emp) → wpList P ops Q rest (a.put o.dst v1) W1) :
    wpList P ops Q (o :: rest) a (W.alloc (.cells cs.toArray e)) := by
  obtain ⟨F, G, hF, hG, hFb, hGb, hdis, hw⟩ := h0.open2 i j hij hi hj
  refine Kd.R_append d (w0 := W) 0 hgd s x t e z bytes ho ht hinfo hz hs0 hb0 v xs p cs (fun k => F k ∨ G k ∨ W.heap.size ≤ k) G hs hx (hp G hG) (fun k hk => ⟨.inr (.inl hk), fun e => hdis k (hF.1 k e.symm) hk⟩) (fun k hk => .inr (.inr hk)) (Kd.R_mono hF (fun k hk => .inl hk)) (Below.refl _ _) (Nat.zero_le _) hl ?_
  intro v1 w1 hR hB hg hat
  exact h v1 w1 (hw _ Emp _ _ (fun _ => False) hR trivial (fun k hk => hk) (fun _ hk => hk.elim) (fun _ _ hk => hk) (Ch.of_grown hg (fun k hk => .inl (hF.1 k hk))))
/-- append(v, ys...): ys is a row that is read, its elements without rows of their own. -/
theorem st_append_rows (d : Kd α) {Rr : α → List Value → Prop} {w W : World} {L : List Asn} (h0 : St w W L) (i : Nat) (hgd : o.guard = none) (s x : Operand) (t e : TypeId) (z : Value) (bytes : Nat)
    (ho : o.op = .call { callee := .builtin .append, args := #[s, x], argTypes := #[t, t] })
    (ht : P.underlying t = some (.slice e)) (hinfo : (P.info? e).map (fun i => (i.zero, i.size, i.bytes)) = some (some z, d.sz, bytes)) (hz : z.cells.size = d.sz) (hs0 : 0 < d.sz) (hb0 : 0 < bytes)
    (v : Value) (xs ys : List α) (A : Option Addr) (m c : Nat) (hi : L[i]? = some (Row d e v xs)) (hs : a.eval s = v) (hx : a.eval x = .slice A m c)
    (HR : ReadsRow Rr d.sz W A m ys) (hKM : ∀ x cs, Rr x cs → d.M W 0 (fun _ => False) x cs) (hl : (xs.length + m) * bytes ≤ 140737488355328)
    (h : ∀ v1 W1, St w W1 (L.set i (Row d e v1 (xs ++ ys))) → wpList P ops Q rest (a.put o.dst v1) W1) :
    wpList P ops Q (o :: rest) a W := by
  obtain ⟨F, hF, hFb, hw⟩ := h0.open_ i hi
  refine Kd.R_append_rows d (w0 := W) 0 hgd s x t e z bytes ho ht hinfo hz hs0 hb0 v xs ys A m c (fun k => F k ∨ W.heap.size ≤ k) (fun _ => False) hs hx (Kd.R_mono hF (fun k hk => .inl hk)) HR hKM (fun _ hk => hk.elim) (fun k hk => .inr hk) (Below.refl _ _) (Nat.zero_le _) hl ?_
  intro v1 w1 hR hB hg hat
  exact h v1 w1 (hw _ _ _ hR (fun k hk => hk) (Ch.of_grown hg (fun k hk => hF.1 k hk)))
theorem st_append_rows_step (d : Kd α) {Rr : α → List Value → Prop} {w W : World} {L : List Asn} (h0 : St w W L) (i : Nat) (hwn : Region.wanted o (yielded ops a.tmps) = true) (s x : Operand) (t e : TypeId) (z : Value) (bytes : Nat)
    (ho : o.op = .call { callee := .builtin .append, args := #[s, x], argTypes := #[t, t] })
    (ht : P.underlying t = some (.slice e)) (hinfo : (P.info? e).map (fun i => (i.zero, i.size, i.bytes)) = some (some z, d.sz, bytes)) (hz : z.cells.size = d.sz) (hs0 : 0 < d.sz) (hb0 : 0 < bytes)
    (v : Value) (xs ys : List α) (A : Option Addr) (m c : Nat) (hi : L[i]? = some (Row d e v xs)) (hs : a.eval s = v) (hx : a.eval x = .slice A m c)
    (HR : ReadsRow Rr d.sz W A m ys) (hKM : ∀ x cs, Rr x cs → d.M W 0 (fun _ => False) x cs) (hl : (xs.length + m) * bytes ≤ 140737488355328)
    (h : ∀ v1 W1, St w W1 (L.set i (Row d e v1 (xs ++ ys))) → Kc (a.put o.dst v1) W1) :
    if Region.wanted o (yielded ops a.tmps) = true then Oper.wp P o a W Kc Q else Kc (a.put o.dst undef) W := by
  obtain ⟨F, hF, hFb, hw⟩ := h0.open_ i hi
  refine Kd.R_append_rows_step d (w0 := W) 0 hwn s x t e z bytes ho ht hinfo hz hs0 hb0 v xs ys A m c (fun k => F k ∨ W.heap.size ≤ k) (fun _ => False) hs hx (Kd.R_mono hF (fun k hk => .inl hk)) HR hKM (fun _ hk => hk.elim) (fun k hk => .inr hk) (Below.refl _ _) (Nat.zero_le _) hl ?_
  intro v1 w1 hR hB hg hat
  exact h v1 w1 (hw _ _ _ hR (fun k hk => hk) (Ch.of_grown hg (fun k hk => hF.1 k hk)))
end
end KitW
end Go.Proofs.YtmhndfnmdkeiaaaDoor
