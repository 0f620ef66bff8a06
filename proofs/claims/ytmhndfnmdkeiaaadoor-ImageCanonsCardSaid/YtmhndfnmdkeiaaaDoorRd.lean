/- Words of this session's own: rows that are read, element by element; lists that rise. No condition. -/
import Derived.Test.YtmhndfnmdkeiaaaDoorSep
import Derived.Laws.Cover1
set_option linter.unusedVariables false
namespace Go.Proofs.YtmhndfnmdkeiaaaDoor
namespace KitW
open Go.RowKit Go.Proofs.YtmhndfnmdkeiaaaDoorW.PrintWords Go.Proofs.YtmhndfnmdkeiaaaDoorW.PrintLast Go.Proofs.YtmhndfnmdkeiaaaDoorW.PrintMore
theorem Sep.reindex {B : Nat} {W : World} {L L' : List Asn} (h : Sep B W L) (σ : Nat → Nat) (inj : ∀ i j, i < L'.length → j < L'.length → σ i = σ j → i = j) (hL : ∀ i A, L'[i]? = some A → L[σ i]? = some A) : Sep B W L' := by
  obtain ⟨F, hb, hd, hP⟩ := h
  refine ⟨fun i k => i < L'.length ∧ F (σ i) k, fun i k hk => hb _ k hk.2, fun i j k h1 h2 => inj i j h1.1 h2.1 (hd _ _ k h1.2 h2.2), fun i A hi => ?_⟩
  have hlt : i < L'.length := (List.getElem?_eq_some_iff.1 hi).1
  exact A.mono (fun k hk => ⟨hlt, hk⟩) (hP _ A (hL i A hi))
/-- Two groups of parts change places. -/
theorem St.rot {w W : World} (X Y : List Asn) {R : List Asn} (h : St w W (X ++ (Y ++ R))) : St w W (Y ++ (X ++ R)) := by
  refine ⟨h.B, Sep.reindex h.S (fun i => if i < Y.length then X.length + i else if i < Y.length + X.length then i - Y.length else i) (fun i j hi hj e => ?_) (fun i A hi => ?_)⟩
  · split at e <;> split at e <;> (try split at e) <;> (try split at e) <;> omega
  · split
    · next h1 =>
      rw [List.getElem?_append_left h1] at hi
      rw [List.getElem?_append_right (by omega), Nat.add_sub_cancel_left, List.getElem?_append_left h1]
      exact hi
    · next h1 =>
      rw [List.getElem?_append_right (by omega)] at hi
      split
      · next h2 =>
        rw [List.getElem?_append_left (by omega)] at hi
        rw [List.getElem?_append_left (by omega)]
        exact hi
      · next h2 =>
        rw [List.getElem?_append_right (by omega)] at hi
        rw [List.getElem?_append_right (by omega), List.getElem?_append_right (by omega)]
        rw [show i - X.length - Y.length = i - Y.length - X.length from by omega]
        exact hi
theorem St.newF {w W W1 : World} {L : List Asn} (h : St w W L) {A : Asn} (hb : Below W.heap.size W W1) {F' : Nat → Prop} (hA : A.P W1 F') (hF : ∀ k, F' k → W.heap.size ≤ k) : St w W1 (A :: L) := by
  have := St.rot L [A] (R := []) (by simpa using St.new h hb hA hF)
  simpa using this
theorem St.allocF {w W : World} {L : List Asn} (h : St w W L) (cs : Array Value) (t : TypeId) : St w (W.alloc (.cells cs t (0, 0))) (Box W.heap.size cs t :: L) :=
  St.newF h (below_alloc (Below.refl _ _) _) (F' := fun k => k = W.heap.size) ⟨rfl, blk_new _ _⟩ (fun k hk => by omega)
theorem St.c1 {w W : World} {L : List Asn} {g : Nat} {t : TypeId} {a0 : Value} (h : St w W L) (i : Nat) (hi : L[i]? = some (Box g #[a0] t)) : W.cell? ⟨g, 0, none⟩ = some a0 ∧ W.frozen? ⟨g, 0, none⟩ = false :=
  ⟨h.cell i hi 0, h.frozen i hi 0⟩
theorem St.c2 {w W : World} {L : List Asn} {g : Nat} {t : TypeId} {a0 a1 : Value} (h : St w W L) (i : Nat) (hi : L[i]? = some (Box g #[a0, a1] t)) : W.cell? ⟨g, 0, none⟩ = some a0 ∧ W.cell? ⟨g, 1, none⟩ = some a1 ∧ W.frozen? ⟨g, 0, none⟩ = false ∧ W.frozen? ⟨g, 1, none⟩ = false :=
  ⟨h.cell i hi 0, h.cell i hi 1, h.frozen i hi 0, h.frozen i hi 1⟩
theorem St.c3 {w W : World} {L : List Asn} {g : Nat} {t : TypeId} {a0 a1 a2 : Value} (h : St w W L) (i : Nat) (hi : L[i]? = some (Box g #[a0, a1, a2] t)) : W.cell? ⟨g, 0, none⟩ = some a0 ∧ W.cell? ⟨g, 1, none⟩ = some a1 ∧ W.cell? ⟨g, 2, none⟩ = some a2 ∧ W.frozen? ⟨g, 0, none⟩ = false ∧ W.frozen? ⟨g, 1, none⟩ = false ∧ W.frozen? ⟨g, 2, none⟩ = false :=
  ⟨h.cell i hi 0, h.cell i hi 1, h.cell i hi 2, h.frozen i hi 0, h.frozen i hi 1, h.frozen i hi 2⟩
theorem St.c4 {w W : World} {L : List Asn} {g : Nat} {t : TypeId} {a0 a1 a2 a3 : Value} (h : St w W L) (i : Nat) (hi : L[i]? = some (Box g #[a0, a1, a2, a3] t)) : W.cell? ⟨g, 0, none⟩ = some a0 ∧ W.cell? ⟨g, 1, none⟩ = some a1 ∧ W.cell? ⟨g, 2, none⟩ = some a2 ∧ W.cell? ⟨g, 3, none⟩ = some a3 ∧ W.frozen? ⟨g, 0, none⟩ = false ∧ W.frozen? ⟨g, 1, none⟩ = false ∧ W.frozen? ⟨g, 2, none⟩ = false ∧ W.frozen? ⟨g, 3, none⟩ = false :=
  ⟨h.cell i hi 0, h.cell i hi 1, h.cell i hi 2, h.cell i hi 3, h.frozen i hi 0, h.frozen i hi 1, h.frozen i hi 2, h.frozen i hi 3⟩
theorem St.c5 {w W : World} {L : List Asn} {g : Nat} {t : TypeId} {a0 a1 a2 a3 a4 : Value} (h : St w W L) (i : Nat) (hi : L[i]? = some (Box g #[a0, a1, a2, a3, a4] t)) : W.cell? ⟨g, 0, none⟩ = some a0 ∧ W.cell? ⟨g, 1, none⟩ = some a1 ∧ W.cell? ⟨g, 2, none⟩ = some a2 ∧ W.cell? ⟨g, 3, none⟩ = some a3 ∧ W.cell? ⟨g, 4, none⟩ = some a4 ∧ W.frozen? ⟨g, 0, none⟩ = false ∧ W.frozen? ⟨g, 1, none⟩ = false ∧ W.frozen? ⟨g, 2, none⟩ = false ∧ W.frozen? ⟨g, 3, none⟩ = false ∧ W.frozen? ⟨g, 4, none⟩ = false :=
  ⟨h.cell i hi 0, h.cell i hi 1, h.cell i hi 2, h.cell i hi 3, h.cell i hi 4, h.frozen i hi 0, h.frozen i hi 1, h.frozen i hi 2, h.frozen i hi 3, h.frozen i hi 4⟩
theorem St.c6 {w W : World} {L : List Asn} {g : Nat} {t : TypeId} {a0 a1 a2 a3 a4 a5 : Value} (h : St w W L) (i : Nat) (hi : L[i]? = some (Box g #[a0, a1, a2, a3, a4, a5] t)) : W.cell? ⟨g, 0, none⟩ = some a0 ∧ W.cell? ⟨g, 1, none⟩ = some a1 ∧ W.cell? ⟨g, 2, none⟩ = some a2 ∧ W.cell? ⟨g, 3, none⟩ = some a3 ∧ W.cell? ⟨g, 4, none⟩ = some a4 ∧ W.cell? ⟨g, 5, none⟩ = some a5 ∧ W.frozen? ⟨g, 0, none⟩ = false ∧ W.frozen? ⟨g, 1, none⟩ = false ∧ W.frozen? ⟨g, 2, none⟩ = false ∧ W.frozen? ⟨g, 3, none⟩ = false ∧ W.frozen? ⟨g, 4, none⟩ = false ∧ W.frozen? ⟨g, 5, none⟩ = false :=
  ⟨h.cell i hi 0, h.cell i hi 1, h.cell i hi 2, h.cell i hi 3, h.cell i hi 4, h.cell i hi 5, h.frozen i hi 0, h.frozen i hi 1, h.frozen i hi 2, h.frozen i hi 3, h.frozen i hi 4, h.frozen i hi 5⟩
theorem St.c7 {w W : World} {L : List Asn} {g : Nat} {t : TypeId} {a0 a1 a2 a3 a4 a5 a6 : Value} (h : St w W L) (i : Nat) (hi : L[i]? = some (Box g #[a0, a1, a2, a3, a4, a5, a6] t)) : W.cell? ⟨g, 0, none⟩ = some a0 ∧ W.cell? ⟨g, 1, none⟩ = some a1 ∧ W.cell? ⟨g, 2, none⟩ = some a2 ∧ W.cell? ⟨g, 3, none⟩ = some a3 ∧ W.cell? ⟨g, 4, none⟩ = some a4 ∧ W.cell? ⟨g, 5, none⟩ = some a5 ∧ W.cell? ⟨g, 6, none⟩ = some a6 ∧ W.frozen? ⟨g, 0, none⟩ = false ∧ W.frozen? ⟨g, 1, none⟩ = false ∧ W.frozen? ⟨g, 2, none⟩ = false ∧ W.frozen? ⟨g, 3, none⟩ = false ∧ W.frozen? ⟨g, 4, none⟩ = false ∧ W.frozen? ⟨g, 5, none⟩ = false ∧ W.frozen? ⟨g, 6, none⟩ = false :=
  ⟨h.cell i hi 0, h.cell i hi 1, h.cell i hi 2, h.cell i hi 3, h.cell i hi 4, h.cell i hi 5, h.cell i hi 6, h.frozen i hi 0, h.frozen i hi 1, h.frozen i hi 2, h.frozen i hi 3, h.frozen i hi 4, h.frozen i hi 5, h.frozen i hi 6⟩
theorem St.c8 {w W : World} {L : List Asn} {g : Nat} {t : TypeId} {a0 a1 a2 a3 a4 a5 a6 a7 : Value} (h : St w W L) (i : Nat) (hi : L[i]? = some (Box g #[a0, a1, a2, a3, a4, a5, a6, a7] t)) : W.cell? ⟨g, 0, none⟩ = some a0 ∧ W.cell? ⟨g, 1, none⟩ = some a1 ∧ W.cell? ⟨g, 2, none⟩ = some a2 ∧ W.cell? ⟨g, 3, none⟩ = some a3 ∧ W.cell? ⟨g, 4, none⟩ = some a4 ∧ W.cell? ⟨g, 5, none⟩ = some a5 ∧ W.cell? ⟨g, 6, none⟩ = some a6 ∧ W.cell? ⟨g, 7, none⟩ = some a7 ∧ W.frozen? ⟨g, 0, none⟩ = false ∧ W.frozen? ⟨g, 1, none⟩ = false ∧ W.frozen? ⟨g, 2, none⟩ = false ∧ W.frozen? ⟨g, 3, none⟩ = false ∧ W.frozen? ⟨g, 4, none⟩ = false ∧ W.frozen? ⟨g, 5, none⟩ = false ∧ W.frozen? ⟨g, 6, none⟩ = false ∧ W.frozen? ⟨g, 7, none⟩ = false :=
  ⟨h.cell i hi 0, h.cell i hi 1, h.cell i hi 2, h.cell i hi 3, h.cell i hi 4, h.cell i hi 5, h.cell i hi 6, h.cell i hi 7, h.frozen i hi 0, h.frozen i hi 1, h.frozen i hi 2, h.frozen i hi 3, h.frozen i hi 4, h.frozen i hi 5, h.frozen i hi 6, h.frozen i hi 7⟩
theorem St.c9 {w W : World} {L : List Asn} {g : Nat} {t : TypeId} {a0 a1 a2 a3 a4 a5 a6 a7 a8 : Value} (h : St w W L) (i : Nat) (hi : L[i]? = some (Box g #[a0, a1, a2, a3, a4, a5, a6, a7, a8] t)) : W.cell? ⟨g, 0, none⟩ = some a0 ∧ W.cell? ⟨g, 1, none⟩ = some a1 ∧ W.cell? ⟨g, 2, none⟩ = some a2 ∧ W.cell? ⟨g, 3, none⟩ = some a3 ∧ W.cell? ⟨g, 4, none⟩ = some a4 ∧ W.cell? ⟨g, 5, none⟩ = some a5 ∧ W.cell? ⟨g, 6, none⟩ = some a6 ∧ W.cell? ⟨g, 7, none⟩ = some a7 ∧ W.cell? ⟨g, 8, none⟩ = some a8 ∧ W.frozen? ⟨g, 0, none⟩ = false ∧ W.frozen? ⟨g, 1, none⟩ = false ∧ W.frozen? ⟨g, 2, none⟩ = false ∧ W.frozen? ⟨g, 3, none⟩ = false ∧ W.frozen? ⟨g, 4, none⟩ = false ∧ W.frozen? ⟨g, 5, none⟩ = false ∧ W.frozen? ⟨g, 6, none⟩ = false ∧ W.frozen? ⟨g, 7, none⟩ = false ∧ W.frozen? ⟨g, 8, none⟩ = false :=
  ⟨h.cell i hi 0, h.cell i hi 1, h.cell i hi 2, h.cell i hi 3, h.cell i hi 4, h.cell i hi 5, h.cell i hi 6, h.cell i hi 7, h.cell i hi 8, h.frozen i hi 0, h.frozen i hi 1, h.frozen i hi 2, h.frozen i hi 3, h.frozen i hi 4, h.frozen i hi 5, h.frozen i hi 6, h.frozen i hi 7, h.frozen i hi 8⟩
theorem St.c10 {w W : World} {L : List Asn} {g : Nat} {t : TypeId} {a0 a1 a2 a3 a4 a5 a6 a7 a8 a9 : Value} (h : St w W L) (i : Nat) (hi : L[i]? = some (Box g #[a0, a1, a2, a3, a4, a5, a6, a7, a8, a9] t)) : W.cell? ⟨g, 0, none⟩ = some a0 ∧ W.cell? ⟨g, 1, none⟩ = some a1 ∧ W.cell? ⟨g, 2, none⟩ = some a2 ∧ W.cell? ⟨g, 3, none⟩ = some a3 ∧ W.cell? ⟨g, 4, none⟩ = some a4 ∧ W.cell? ⟨g, 5, none⟩ = some a5 ∧ W.cell? ⟨g, 6, none⟩ = some a6 ∧ W.cell? ⟨g, 7, none⟩ = some a7 ∧ W.cell? ⟨g, 8, none⟩ = some a8 ∧ W.cell? ⟨g, 9, none⟩ = some a9 ∧ W.frozen? ⟨g, 0, none⟩ = false ∧ W.frozen? ⟨g, 1, none⟩ = false ∧ W.frozen? ⟨g, 2, none⟩ = false ∧ W.frozen? ⟨g, 3, none⟩ = false ∧ W.frozen? ⟨g, 4, none⟩ = false ∧ W.frozen? ⟨g, 5, none⟩ = false ∧ W.frozen? ⟨g, 6, none⟩ = false ∧ W.frozen? ⟨g, 7, none⟩ = false ∧ W.frozen? ⟨g, 8, none⟩ = false ∧ W.frozen? ⟨g, 9, none⟩ = false :=
  ⟨h.cell i hi 0, h.cell i hi 1, h.cell i hi 2, h.cell i hi 3, h.cell i hi 4, h.cell i hi 5, h.cell i hi 6, h.cell i hi 7, h.cell i hi 8, h.cell i hi 9, h.frozen i hi 0, h.frozen i hi 1, h.frozen i hi 2, h.frozen i hi 3, h.frozen i hi 4, h.frozen i hi 5, h.frozen i hi 6, h.frozen i hi 7, h.frozen i hi 8, h.frozen i hi 9⟩
theorem St.c11 {w W : World} {L : List Asn} {g : Nat} {t : TypeId} {a0 a1 a2 a3 a4 a5 a6 a7 a8 a9 a10 : Value} (h : St w W L) (i : Nat) (hi : L[i]? = some (Box g #[a0, a1, a2, a3, a4, a5, a6, a7, a8, a9, a10] t)) : W.cell? ⟨g, 0, none⟩ = some a0 ∧ W.cell? ⟨g, 1, none⟩ = some a1 ∧ W.cell? ⟨g, 2, none⟩ = some a2 ∧ W.cell? ⟨g, 3, none⟩ = some a3 ∧ W.cell? ⟨g, 4, none⟩ = some a4 ∧ W.cell? ⟨g, 5, none⟩ = some a5 ∧ W.cell? ⟨g, 6, none⟩ = some a6 ∧ W.cell? ⟨g, 7, none⟩ = some a7 ∧ W.cell? ⟨g, 8, none⟩ = some a8 ∧ W.cell? ⟨g, 9, none⟩ = some a9 ∧ W.cell? ⟨g, 10, none⟩ = some a10 ∧ W.frozen? ⟨g, 0, none⟩ = false ∧ W.frozen? ⟨g, 1, none⟩ = false ∧ W.frozen? ⟨g, 2, none⟩ = false ∧ W.frozen? ⟨g, 3, none⟩ = false ∧ W.frozen? ⟨g, 4, none⟩ = false ∧ W.frozen? ⟨g, 5, none⟩ = false ∧ W.frozen? ⟨g, 6, none⟩ = false ∧ W.frozen? ⟨g, 7, none⟩ = false ∧ W.frozen? ⟨g, 8, none⟩ = false ∧ W.frozen? ⟨g, 9, none⟩ = false ∧ W.frozen? ⟨g, 10, none⟩ = false :=
  ⟨h.cell i hi 0, h.cell i hi 1, h.cell i hi 2, h.cell i hi 3, h.cell i hi 4, h.cell i hi 5, h.cell i hi 6, h.cell i hi 7, h.cell i hi 8, h.cell i hi 9, h.cell i hi 10, h.frozen i hi 0, h.frozen i hi 1, h.frozen i hi 2, h.frozen i hi 3, h.frozen i hi 4, h.frozen i hi 5, h.frozen i hi 6, h.frozen i hi 7, h.frozen i hi 8, h.frozen i hi 9, h.frozen i hi 10⟩
theorem St.c12 {w W : World} {L : List Asn} {g : Nat} {t : TypeId} {a0 a1 a2 a3 a4 a5 a6 a7 a8 a9 a10 a11 : Value} (h : St w W L) (i : Nat) (hi : L[i]? = some (Box g #[a0, a1, a2, a3, a4, a5, a6, a7, a8, a9, a10, a11] t)) : W.cell? ⟨g, 0, none⟩ = some a0 ∧ W.cell? ⟨g, 1, none⟩ = some a1 ∧ W.cell? ⟨g, 2, none⟩ = some a2 ∧ W.cell? ⟨g, 3, none⟩ = some a3 ∧ W.cell? ⟨g, 4, none⟩ = some a4 ∧ W.cell? ⟨g, 5, none⟩ = some a5 ∧ W.cell? ⟨g, 6, none⟩ = some a6 ∧ W.cell? ⟨g, 7, none⟩ = some a7 ∧ W.cell? ⟨g, 8, none⟩ = some a8 ∧ W.cell? ⟨g, 9, none⟩ = some a9 ∧ W.cell? ⟨g, 10, none⟩ = some a10 ∧ W.cell? ⟨g, 11, none⟩ = some a11 ∧ W.frozen? ⟨g, 0, none⟩ = false ∧ W.frozen? ⟨g, 1, none⟩ = false ∧ W.frozen? ⟨g, 2, none⟩ = false ∧ W.frozen? ⟨g, 3, none⟩ = false ∧ W.frozen? ⟨g, 4, none⟩ = false ∧ W.frozen? ⟨g, 5, none⟩ = false ∧ W.frozen? ⟨g, 6, none⟩ = false ∧ W.frozen? ⟨g, 7, none⟩ = false ∧ W.frozen? ⟨g, 8, none⟩ = false ∧ W.frozen? ⟨g, 9, none⟩ = false ∧ W.frozen? ⟨g, 10, none⟩ = false ∧ W.frozen? ⟨g, 11, none⟩ = false :=
  ⟨h.cell i hi 0, h.cell i hi 1, h.cell i hi 2, h.cell i hi 3, h.cell i hi 4, h.cell i hi 5, h.cell i hi 6, h.cell i hi 7, h.cell i hi 8, h.cell i hi 9, h.cell i hi 10, h.cell i hi 11, h.frozen i hi 0, h.frozen i hi 1, h.frozen i hi 2, h.frozen i hi 3, h.frozen i hi 4, h.frozen i hi 5, h.frozen i hi 6, h.frozen i hi 7, h.frozen i hi 8, h.frozen i hi 9, h.frozen i hi 10, h.frozen i hi 11⟩
theorem C_some {α : Type} {d : Kd α} {w : World} {A : Option Addr} {n : Nat} {xs : List α} (h : d.C w A n xs) (hn : 0 < n) : ∃ a, A = some a := by
  obtain ⟨a, e, _⟩ := h.2.2 hn
  exact ⟨a, e⟩
theorem C_at {α : Type} {d : Kd α} {w : World} {a : Addr} {n : Nat} {xs : List α} (h : d.C w (some a) n xs) (z : α) (i : Int) (h0 : 0 ≤ i) (h1 : i < n) : ∃ c, d.K w (xs.getD i.toNat z) c ∧ ∀ j u, c[j]? = some u → w.cell? (a.add (i.toNat * d.sz + j)) = some u := by
  obtain ⟨ad, c, e, _, h2, h3⟩ := Kd.C_get h z i h0 h1
  injection e with e
  subst e
  exact ⟨c, h2, h3⟩
theorem C_max {α : Type} {d : Kd α} {w : World} {A : Option Addr} {n : Nat} {xs : List α} (h : d.C w A n xs) : n ≤ 9223372036854775807 := h.2.1
theorem C_one {α : Type} {d : Kd α} {w : World} {a : Addr} {n : Nat} {xs : List α} (h : d.C w (some a) n xs) (hs : d.sz = 1) {f : α → Value} (hf : ∀ x c, d.K w x c → c = [f x]) (z : α) (i : Int) (h0 : 0 ≤ i) (h1 : i < n) : w.cell? (a.add i.toNat) = some (f (xs.getD i.toNat z)) := by
  obtain ⟨c, h2, h3⟩ := C_at h z i h0 h1
  rw [hf _ _ h2] at h3
  have := h3 0 _ rfl
  rwa [hs, Nat.mul_one, Nat.add_zero] at this
theorem str_at {w : World} {a : Addr} {n : Nat} {xs : List ByteArray} (h : Kd.C Kd.string w (some a) n xs) (i : Int) (h0 : 0 ≤ i) (h1 : i < n) : w.cell? (a.add i.toNat) = some (.string (xs.getD i.toNat ByteArray.empty)) :=
  C_one (f := Value.string) h rfl (fun _ _ h => h) _ i h0 h1
theorem int_at {k : IntKind} {w : World} {a : Addr} {n : Nat} {xs : List Int} (h : Kd.C (Kd.int k) w (some a) n xs) (i : Int) (h0 : 0 ≤ i) (h1 : i < n) : w.cell? (a.add i.toNat) = some (.int k (xs.getD i.toNat 0)) :=
  C_one (f := Value.int k) h rfl (fun _ _ h => h) _ i h0 h1
theorem bool_at {w : World} {a : Addr} {n : Nat} {xs : List Bool} (h : Kd.C Kd.bool w (some a) n xs) (i : Int) (h0 : 0 ≤ i) (h1 : i < n) : w.cell? (a.add i.toNat) = some (.bool (xs.getD i.toNat false)) :=
  C_one (f := Value.bool) h rfl (fun _ _ h => h) _ i h0 h1
/-- A list that rises. -/
def up {α : Type} (lt : α → α → Bool) : List α → Bool
  | a :: b :: r => lt a b && up lt (b :: r)
  | _ => true
theorem up_iff {α : Type} (lt : α → α → Bool) (z : α) : ∀ l : List α, up lt l = true ↔ ∀ j, j + 1 < l.length → lt (l.getD j z) (l.getD (j + 1) z) = true
  | [] => by simp [up]
  | [a] => by simp [up]
  | a :: b :: r => by
    have ih := up_iff lt z (b :: r)
    simp only [up, Bool.and_eq_true, ih]
    constructor
    · rintro ⟨h1, h2⟩ j hj
      cases j with
      | zero => simpa using h1
      | succ j => simpa using h2 j (by simpa using hj)
    · intro h
      exact ⟨by simpa using h 0 (by simp), fun j hj => by simpa using h (j + 1) (by simpa using hj)⟩
theorem up_false {α : Type} (lt : α → α → Bool) (z : α) (l : List α) (i : Int) (h0 : 1 ≤ i) (h1 : i < l.length) (h : lt (l.getD (i - 1).toNat z) (l.getD i.toNat z) = false) : up lt l = false := by
  rw [← Bool.not_eq_true, up_iff lt z]
  intro hn
  have := hn (i - 1).toNat (by omega)
  rw [show (i - 1).toNat + 1 = i.toNat from by omega, h] at this
  cases this
theorem up_step {α : Type} {lt : α → α → Bool} {z : α} {l : List α} {i p : Int} {x y : α} (H : ∀ j, j + 1 < i.toNat → lt (l.getD j z) (l.getD (j + 1) z) = true) (h1 : 1 ≤ i) (hx : x = l.getD i.toNat z) (hp : p = i - 1) (hy : y = l.getD p.toNat z) (h : lt y x = true) : ∀ j, j + 1 < (i + 1).toNat → lt (l.getD j z) (l.getD (j + 1) z) = true := by
  intro j hj
  by_cases hj2 : j + 1 < i.toNat
  · exact H j hj2
  · have e1 : j = p.toNat := by omega
    rw [e1, show p.toNat + 1 = i.toNat from by omega, ← hx, ← hy]
    exact h
theorem up_stop {α : Type} {lt : α → α → Bool} {z : α} {l : List α} {i p : Int} {x y : α} (h1 : 1 ≤ i) (hl : i < l.length) (hx : x = l.getD i.toNat z) (hp : p = i - 1) (hy : y = l.getD p.toNat z) (h : lt y x = false) : up lt l = false := by
  refine up_false lt z l i h1 hl ?_
  rw [← hp, ← hx, ← hy]
  exact h
theorem bytesLess_tri : ∀ a b : List UInt8, (Go.Op.bytesLess b a || b == a) = !Go.Op.bytesLess a b
  | [], [] => by simp [Go.Op.bytesLess]
  | [], _ :: _ => by simp [Go.Op.bytesLess]
  | _ :: _, [] => by simp [Go.Op.bytesLess]
  | x :: a, y :: b => by
    have ih := bytesLess_tri a b
    simp only [Go.Op.bytesLess]
    by_cases h : x = y
    · subst h
      rw [show ((x :: b) == (x :: a)) = (b == a) from by simp]
      simp only [beq_self_eq_true, Bool.true_and, show decide (x < x) = false from by simp, Bool.false_or]
      exact ih
    · have h2 : (x == y) = false := by simpa using h
      have h3 : (y == x) = false := by simpa using fun e => h e.symm
      have h4 : ((y :: b) == (x :: a)) = false := by simp [h3]
      rw [h2, h3, h4]
      simp only [Bool.false_and, Bool.or_false]
      by_cases hlt : x < y
      · simp [hlt, UInt8.not_lt.2 (UInt8.le_of_lt hlt)]
      · have : y < x := by
          rcases UInt8.lt_or_lt_of_ne h with h | h
          · exact absurd h hlt
          · exact h
        simp [hlt, this]
theorem toList_pos {s : ByteArray} (h : s.toList.isEmpty = false) : 0 < (s.size : Int) := by
  rw [ByteArray.toList_eq] at h
  have : s.data.toList.length ≠ 0 := by
    intro e
    rw [List.length_eq_zero_iff.1 e] at h
    cases h
  have h2 : s.size = s.data.toList.length := Array.length_toList.symm
  omega
def sLt (a b : ByteArray) : Bool := Go.Op.bytesLess a.toList b.toList
theorem sLt_yes {a b : ByteArray} (h1 : Go.Op.bytesLess b.toList a.toList = false) (h2 : (b.toList == a.toList) = false) : sLt a b = true := by
  have := bytesLess_tri a.toList b.toList
  rw [h1, h2] at this
  simpa [sLt] using this.symm
theorem sLt_no {a b : ByteArray} (h : Go.Op.bytesLess b.toList a.toList = true) : sLt a b = false := by
  have := bytesLess_tri a.toList b.toList
  rw [h] at this
  simpa [sLt] using this.symm
theorem sLt_eq {a b : ByteArray} (h : (b.toList == a.toList) = true) : sLt a b = false := by
  have := bytesLess_tri a.toList b.toList
  rw [h] at this
  simpa [sLt] using this.symm
def iLt (a b : Int) : Bool := decide (a < b)
/-- A vector of Booleans, of whole numbers: a block of the call's own, as long as it was made. -/
def bv (xs : List Bool) : Array Value := (xs.map Value.bool).toArray
theorem bv_set (xs : List Bool) (k : Nat) (x : Bool) : (bv xs).setIfInBounds k (.bool x) = bv (xs.set k x) := by
  unfold bv
  rw [List.setIfInBounds_toArray, List.map_set]
theorem bv_get {xs : List Bool} {k : Nat} (h : k < xs.length) : (bv xs)[k]? = some (.bool (xs.getD k false)) := by
  unfold bv
  simp [h]
def iv (xs : List Int) : Array Value := (xs.map (Value.int .i64)).toArray
theorem iv_set (xs : List Int) (k : Nat) (x : Int) : (iv xs).setIfInBounds k (.int .i64 x) = iv (xs.set k x) := by
  unfold iv
  rw [List.setIfInBounds_toArray, List.map_set]
theorem iv_get {xs : List Int} {k : Nat} (h : k < xs.length) : (iv xs)[k]? = some (.int .i64 (xs.getD k 0)) := by
  unfold iv
  simp [h]
theorem made_one (v : Value) (n : Nat) (h : v.cells = #[v]) : madeCells v.cells n = (List.replicate n v).toArray := by
  rw [h]
  unfold madeCells
  apply Array.ext
  · simp
  · intro i h1 h2
    simp [Nat.mod_one]
theorem made_bv (n : Nat) : madeCells (Value.bool false).cells n = bv (List.replicate n false) := by
  rw [made_one _ _ rfl]
  simp [bv]
theorem made_iv (n : Nat) : madeCells (Value.int .i64 0).cells n = iv (List.replicate n 0) := by
  rw [made_one _ _ rfl]
  simp [iv]
theorem bv_C {w W : World} {L : List Asn} (h : St w W L) (i : Nat) {g t : Nat} {xs : List Bool} (hi : L[i]? = some (Box g (bv xs) t)) (hm : xs.length ≤ 9223372036854775807) : Kd.C Kd.bool W (some ⟨g, 0, none⟩) xs.length xs := by
  refine ⟨rfl, hm, fun _ => ⟨_, rfl, fun j p hj => ⟨[.bool p], rfl, rfl, fun q u hq => ?_⟩⟩⟩
  cases q with
  | succ q => simp at hq
  | zero =>
    simp at hq
    subst hq
    rw [show Kd.bool.sz = 1 from rfl, Nat.mul_one, Nat.add_zero]
    have hlt : j < xs.length := (List.getElem?_eq_some_iff.1 hj).1
    have := h.cell i hi j
    rw [bv_get hlt] at this
    have e : xs.getD j false = p := by rw [List.getD_eq_getElem?_getD, hj]; rfl
    rw [e] at this
    unfold Addr.add
    by_cases h0 : j = 0
    · subst h0; simpa using this
    · simpa [h0] using this
theorem iv_C {w W : World} {L : List Asn} (h : St w W L) (i : Nat) {g t : Nat} {xs : List Int} (hi : L[i]? = some (Box g (iv xs) t)) (hm : xs.length ≤ 9223372036854775807) : Kd.C (Kd.int .i64) W (some ⟨g, 0, none⟩) xs.length xs := by
  refine ⟨rfl, hm, fun _ => ⟨_, rfl, fun j p hj => ⟨[.int .i64 p], rfl, rfl, fun q u hq => ?_⟩⟩⟩
  cases q with
  | succ q => simp at hq
  | zero =>
    simp at hq
    subst hq
    rw [show (Kd.int .i64).sz = 1 from rfl, Nat.mul_one, Nat.add_zero]
    have hlt : j < xs.length := (List.getElem?_eq_some_iff.1 hj).1
    have := h.cell i hi j
    rw [iv_get hlt] at this
    have e : xs.getD j 0 = p := by rw [List.getD_eq_getElem?_getD, hj]; rfl
    rw [e] at this
    unfold Addr.add
    by_cases h0 : j = 0
    · subst h0; simpa using this
    · simpa [h0] using this
section
variable {P : Program} {ops : Array Oper} {o : Oper} {a : Act} {Q : Exit → Act → World → Prop} {Kc : Act → World → Prop}
/-- make([]T, n): a block of the call's own, elements of one cell. -/
theorem st_makeN_step {w W : World} {L : List Asn} (h0 : St w W L) (e : Nat) (hw : Region.wanted o (yielded ops a.tmps) = true) (t : TypeId) (x y : Operand) (ho : o.op = .makeSlice t x y) (n : Nat) (hx : a.eval x = .int .i64 (n : Int)) (hy : a.eval y = .int .i64 (n : Int))
    (ht : P.underlying t = some (.slice e)) (z : Value) (bytes : Nat) (hinfo : (P.info? e).map (fun i => (i.zero, i.size, i.bytes)) = some (some z, 1, bytes)) (hl : bytes * n ≤ 281474976710656) (hn : n ≤ 9223372036854775807)
    (h : ∀ g W1, g = W.heap.size → St w W1 (Box g (madeCells z.cells n) e :: L) → Kc (a.put o.dst (.slice (some ⟨g, 0, none⟩) n n)) W1) : if Region.wanted o (yielded ops a.tmps) = true then Oper.wp P o a W Kc Q else Kc (a.put o.dst undef) W := by
  rw [if_pos hw]
  obtain ⟨i0, hi, hzz⟩ := Option.map_eq_some_iff.1 hinfo
  simp only [Prod.mk.injEq] at hzz
  obtain ⟨hz0, hz1, hz2⟩ := hzz
  have hb : (i0.bytes : Int) * (n : Int) ≤ 281474976710656 := by
    have h9 : ((bytes * n : Nat) : Int) ≤ 281474976710656 := by omega
    rw [hz2]
    rwa [Int.natCast_mul] at h9
  have hr := run_make (P := P) W t e i0 z ht hi hz0 .i64 .i64 n n (by omega) (Int.le_refl _) hb (by omega)
  rw [Int.toNat_natCast, hz1, Nat.mul_one] at hr
  have hk := h _ _ rfl (St.allocF h0 (madeCells z.cells n) e)
  simp only [Oper.wp]
  have he : (execOp a.eval o).run P W = .ok (.value (.slice (some ⟨W.heap.size, 0, none⟩) n n)) (W.alloc (.cells (madeCells z.cells n) e)) := by
    simp [execOp, ho, hx, hy, hr]
  rw [he]
  exact hk
end
section
variable {P : Program} {ops : Array Oper} {Q : Exit → Act → World → Prop} {md : Region.Mode} {S : World → Prop} {ds : List Nat}
/-- A step, what has come up told by the step's number. -/
theorem pz {oi : Oper} {v : Value} {fuel : Nat} {l : Array Bool} {a : Act} {w : World} (i : Nat) (N : Option Tmp) (hi : ops[i]? = some oi) (hN : oi.dst = N) (hc : anyB md ops l (l.setIfInBounds i true) i = true)
    (hQ : ∀ c a w, Q (.panic c) (a.put oi.dst v) w → Q (.panic c) a w) (hy : Yields P ops oi v a) {a' : Act} (ha : a.put N v = a') (h : wpAnyLast P md ops Q S ds fuel (l.setIfInBounds i true) a' w) : wpAnyLast P md ops Q S ds (fuel + 1) l a w := pure_ _ hi hN hc hQ hy ha h
theorem tz {oi : Oper} {v : Value} {fuel : Nat} {l : Array Bool} {a : Act} {w : World} (i : Nat) (N : Option Tmp) (hi : ops[i]? = some oi) (hN : oi.dst = N) (hc : takeB md ops ds l (l.setIfInBounds i true) i = true)
    (hQ : ∀ c a w, Q (.panic c) (a.put oi.dst v) w → Q (.panic c) a w) (hy : YieldsIf P ops S oi v a) (hS : S w) {a' : Act} (ha : a.put N v = a') (h : wpAnyLast P md ops Q S ds fuel (l.setIfInBounds i true) a' w) : wpAnyLast P md ops Q S ds (fuel + 1) l a w := take_ _ hi hN hc hQ hy hS ha h
end
end KitW
end Go.Proofs.YtmhndfnmdkeiaaaDoor
