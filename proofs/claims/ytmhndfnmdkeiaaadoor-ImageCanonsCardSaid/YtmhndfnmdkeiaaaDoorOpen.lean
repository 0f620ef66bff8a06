/- Words of this session's own: arguments as they come in, read part by part: slices of whatever, nil told from empty, with what they may weigh. No condition. -/
import Derived.Test.YtmhndfnmdkeiaaaDoorSep
import Derived.Deep.Slices
import Derived.SizedLaws
import Derived.ChangeSlices
set_option linter.unusedVariables false
namespace Go.Proofs.YtmhndfnmdkeiaaaDoor
namespace KitW
open Go.RowKit Go.Proofs.YtmhndfnmdkeiaaaDoorW.PrintWords Go.Proofs.YtmhndfnmdkeiaaaDoorW.PrintLast Go.Proofs.YtmhndfnmdkeiaaaDoorW.PrintMore
open Go.ChangeShapes Go.WideShapes Go.Deep

section
variable {H : Type} {enc : TypeId × Value → H} {P : Program} {W : World} {spare : Nat → Bool} {held : Bool}
/-- What a type's reading gives: its cells read as a value of α. -/
def Reads {H : Type} (enc : TypeId × Value → H) (P : Program) (W : World) (spare : Nat → Bool) (held : Bool) (t : TypeId) {α : Type} (R : α → List Value → Prop) : Prop :=
  ∀ (fuel : Nat) (cs : List Value) (d : DataW H) (ps : List MemPlace), DataW.trod enc P W 0 spare held fuel t cs = some (d, ps) → (∀ x ∈ d.weights P t, x ≤ 140737488351232) → ∃ x, R x cs
theorem reads_int {t : TypeId} {k : IntKind} (ht : P.underlying t = some (.int k)) : Reads enc P W spare held t (fun (x : Int) cs => cs = [.int k x] ∧ (Lit.int k x).wf = true) := by
  intro fuel cs d ps h _
  cases fuel with
  | zero => cases h
  | succ fuel =>
    unfold DataW.trod at h
    rw [ht] at h
    split at h <;> simp_all
theorem reads_string {t : TypeId} (ht : P.underlying t = some .string) : Reads enc P W spare held t (fun (x : ByteArray) cs => cs = [.string x] ∧ x.size ≤ 140737488351232) := by
  intro fuel cs d ps h hw
  cases fuel with
  | zero => cases h
  | succ fuel =>
    unfold DataW.trod at h
    rw [ht] at h
    split at h <;> simp_all
    obtain ⟨_, rfl, _⟩ := h
    have := hw _ (List.mem_singleton.2 rfl)
    rw [Array.length_toList] at this
    exact this
/-- A slice that is read: nil, or a row. -/
def SlR {α : Type} (R : α → List Value → Prop) (sz B : Nat) (W : World) (x : Option (List α)) (cs : List Value) : Prop :=
  match x with
  | none => cs = [.slice none 0 0]
  | some l => ∃ A c, cs = [.slice (some A) l.length c] ∧ l.length ≤ c ∧ c ≤ maxLen ∧ l.length * B ≤ 140737488351232 ∧ ReadsRow R sz W (some A) l.length l
theorem choose_fn {α : Type} [Nonempty α] {p : Nat → α → Prop} {n : Nat} (h : ∀ i, i < n → ∃ x, p i x) : ∃ f : Nat → α, ∀ i, i < n → p i (f i) := by
  classical
  refine ⟨fun i => if hi : i < n then Classical.choose (h i hi) else Classical.choice inferInstance, fun i hi => ?_⟩
  simp only [hi, dif_pos]
  exact Classical.choose_spec (h i hi)
theorem mapM_get {α β : Type} {f : α → Option β} : ∀ {l : List α} {ys : List β}, l.mapM f = some ys → ys.length = l.length ∧ ∀ (i : Nat) (x : α), l[i]? = some x → f x = ys[i]?
  | [], ys, h => by
    simp at h
    subst h
    exact ⟨rfl, fun i x hx => by simp at hx⟩
  | a :: l, ys, h => by
    rw [List.mapM_cons] at h
    simp only [Option.bind_eq_bind, Option.bind_eq_some_iff, Option.pure_def, Option.some.injEq] at h
    obtain ⟨y, hy, zs, hz, rfl⟩ := h
    obtain ⟨h1, h2⟩ := mapM_get hz
    refine ⟨by simp [h1], fun i x hx => ?_⟩
    cases i with
    | zero => simp at hx; subst hx; simpa using hy
    | succ i => simpa using h2 i x (by simpa using hx)
theorem cells_get {a : Addr} {n : Nat} {cs : List Value} (h : W.cells? 0 a n = some cs) : cs.length = n ∧ ∀ i u, cs[i]? = some u → W.cell? (a.add i) = some u := by
  unfold World.cells? at h
  rw [if_pos (Nat.zero_le _)] at h
  obtain ⟨h1, h2⟩ := mapM_get h
  rw [List.length_range] at h1
  refine ⟨h1, fun i u hu => ?_⟩
  have hi : i < n := by have := (List.getElem?_eq_some_iff.1 hu).1; omega
  rw [h2 i i (by simp [hi]), hu]
theorem add_add (a : Addr) (i j : Nat) : (a.add i).add j = a.add (i + j) := by
  unfold Addr.add
  by_cases hi : i = 0
  · subst hi; simp
  · by_cases hj : j = 0
    · subst hj; simp [hi]
    · simp [hi, hj, Nat.add_assoc]
theorem weights_all {e : TypeId} : ∀ {l : List (DataW H)} {d : DataW H}, d ∈ l → ∀ x ∈ d.weights P e, x ∈ DataW.weightsAll P e l
  | [], d, h => by cases h
  | a :: l, d, h => by
    intro x hx
    unfold DataW.weightsAll
    rcases List.mem_cons.1 h with rfl | h
    · exact List.mem_append_left _ hx
    · exact List.mem_append_right _ (weights_all h x hx)
theorem weights_each : ∀ {ts : List TypeId} {l : List (DataW H)} (i : Nat) {t : TypeId} {d : DataW H}, ts[i]? = some t → l[i]? = some d → ∀ x ∈ d.weights P t, x ∈ DataW.weightsEach P ts l
  | [], _, i, t, d, h, _ => by simp at h
  | _ :: _, [], i, t, d, _, h => by simp at h
  | t0 :: ts, d0 :: l, i, t, d, ht, hd => by
    intro x hx
    unfold DataW.weightsEach
    cases i with
    | zero =>
      simp at ht hd
      subst ht
      subst hd
      exact List.mem_append_left _ hx
    | succ i => exact List.mem_append_right _ (weights_each i (by simpa using ht) (by simpa using hd) x hx)
theorem reads_slice {α : Type} [Nonempty α] {t e : TypeId} (ht : P.underlying t = some (.slice e)) {sz B : Nat} (hc : P.cellsOf e = sz) (hB : P.bytesOf e = B) {R : α → List Value → Prop} (hR : Reads enc P W (fun _ => true) held e R) :
    Reads enc P W (fun _ => true) held t (SlR R sz B W) := by
  intro fuel cs d ps h hw
  rcases open_slice ht h with ⟨rfl, _⟩ | ⟨a, len, cap, m, n, D, Pl, rfl, _, hl, hm, hmm, hx, hel⟩
  · exact ⟨none, rfl⟩
  · simp only [if_true] at hmm
    subst hmm
    injection hx with hd _
    subst hd
    have hw1 : ∀ i, i < m → ∀ x ∈ (D i).weights P e, x ≤ 140737488351232 := by
      intro i hi x hx
      refine hw x ?_
      unfold DataW.weights
      rw [ht]
      refine List.mem_cons_of_mem _ ?_
      by_cases hil : i < len
      · exact List.mem_append_left _ (weights_all (List.mem_map.2 ⟨i, List.mem_range.2 hil, rfl⟩) x hx)
      · exact List.mem_append_right _ (weights_all (List.mem_map.2 ⟨i - len, List.mem_range.2 (by omega), by rw [show len + (i - len) = i from by omega]⟩) x hx)
    have hb : len * B ≤ 140737488351232 := by
      have := hw ((((List.range len).map D).length + ((List.range (m - len)).map fun j => D (len + j)).length) * P.bytesOf e) (by unfold DataW.weights; rw [ht]; exact List.mem_cons_self)
      simp only [List.length_map, List.length_range, hB] at this
      exact Nat.le_trans (Nat.mul_le_mul_right _ (by omega)) this
    have hel2 : ∀ i, i < len → ∃ x : α, ∃ c, c.length = sz ∧ R x c ∧ ∀ j u, c[j]? = some u → W.cell? (a.add (i * sz + j)) = some u := by
      intro i hi
      obtain ⟨c, hcs, htr⟩ := hel i (by omega)
      rw [hc] at hcs
      obtain ⟨h1, h2⟩ := cells_get hcs
      obtain ⟨x, hx⟩ := hR n c (D i) (Pl i) htr (hw1 i (by omega))
      exact ⟨x, c, h1, hx, fun j u hu => by rw [← add_add]; exact h2 j u hu⟩
    obtain ⟨f, hf⟩ := choose_fn hel2
    have hlen : ((List.range len).map f).length = len := by simp
    refine ⟨some ((List.range len).map f), a, m, by rw [hlen], by rw [hlen]; exact hl, hm, by rw [hlen]; exact hb, rfl, by rw [hlen]; unfold maxLen at hm; omega, fun _ => ⟨a, rfl, fun j p hj => ?_⟩⟩
    have hjl : j < len := by have := (List.getElem?_eq_some_iff.1 hj).1; simp at this; exact this
    have hp : f j = p := by simpa [hjl] using hj
    rw [← hp]
    exact hf j hjl
/-- A struct's fields. -/
theorem reads_fields {t : TypeId} {fs : Array Field} (ht : P.underlying t = some (.struct fs)) {fuel : Nat} {cs : List Value} {d : DataW H} {ps : List MemPlace} (h : DataW.trod enc P W 0 spare held fuel t cs = some (d, ps)) (hw : ∀ x ∈ d.weights P t, x ≤ 140737488351232) :
    cs.length = P.cellsOf t ∧ ∀ (i : Nat) (f : Field), fs.toList[i]? = some f → ∀ {α : Type} {R : α → List Value → Prop}, Reads enc P W spare held f.type R → ∃ x, R x ((cs.drop f.offset).take (P.cellsOf f.type)) := by
  obtain ⟨xs, n, _, hx, hl, hlen, hf⟩ := DataW.trod_struct ht h
  refine ⟨hl, fun i f hi {α} {R} hR => ?_⟩
  injection hx with hd hps
  subst hd
  have hil : i < xs.length := by
    rw [hlen]
    have := (List.getElem?_eq_some_iff.1 hi).1
    simpa using this
  have h2 := hf i f (by simpa using hi)
  rw [List.getElem?_eq_getElem hil] at h2
  refine hR n _ xs[i].1 xs[i].2 (by simpa using h2) (fun x hx => hw x ?_)
  unfold DataW.weights
  rw [ht]
  exact weights_each i (by rw [List.getElem?_map, hi]; rfl) (by rw [List.getElem?_map, List.getElem?_eq_getElem hil]; rfl) x hx
end
theorem SlR.imp {α : Type} {R R' : α → List Value → Prop} {sz B : Nat} {W : World} {x : Option (List α)} {cs : List Value} (h : SlR R sz B W x cs) (hR : ∀ p c, R p c → R' p c) : SlR R' sz B W x cs := by
  cases x with
  | none => exact h
  | some l =>
    obtain ⟨A, c, h1, h2, h3, h4, h5⟩ := h
    exact ⟨A, c, h1, h2, h3, h4, ReadsRow.imp_ h5 (Below.refl _ _) hR⟩
/-- Opened: an address or none, a list. -/
theorem SlR.open_ {α : Type} {R : α → List Value → Prop} {sz B : Nat} {W : World} {x : Option (List α)} {v : Value} (h : SlR R sz B W x [v]) :
    ∃ A c l, v = .slice A l.length c ∧ x = nl A l ∧ (A = none → l.length = 0 ∧ c = 0) ∧ l.length ≤ c ∧ l.length * B ≤ 140737488351232 ∧ ReadsRow R sz W A l.length l := by
  cases x with
  | none =>
    injection (h : [v] = [.slice none 0 0]) with h
    exact ⟨none, 0, [], h, rfl, fun _ => ⟨rfl, rfl⟩, Nat.le_refl _, by simp, rfl, by simp, fun hn => absurd hn (by simp)⟩
  | some l =>
    obtain ⟨A, c, h1, h2, h3, h4, h5⟩ := h
    injection h1 with h1
    exact ⟨some A, c, l, h1, rfl, (fun h => nomatch h), h2, h4, h5⟩
end KitW
end Go.Proofs.YtmhndfnmdkeiaaaDoor
