/- ImageEquals, for every input: the law's function answers true, and each argument reads behind the call as it read before. No condition. -/
import Derived.Test.YtmhndfnmdkeiaaaRows
import Derived.Test.YtmhndfnmdkeiaaaLawEq
import Derived.Test.YtmhndfnmdkeiaaaOpen
import Derived.WalkKit
import Derived.ProofKit
import Derived.OpenShut
import Derived.ShutString
import Derived.ChangeOld
import Derived.Below
import Derived.SizedLaws
namespace Go.Proofs.Ytmhndfnmdkeiaaa.RowW
open Go.ChangeShapes Go.WideShapes Go.ChangeAt Go.RowKit
open Go.Proofs.YtmhndfnmdkeiaaaW.PrintWords Go.Proofs.YtmhndfnmdkeiaaaW.PrintLast Go.Proofs.YtmhndfnmdkeiaaaW.PrintMore
open PImageEquals KitW EqW RefEq OwnW EqF IntactW LawW
set_option linter.unusedVariables false
set_option linter.unusedSimpArgs false
theorem cells26 : Try.prog.cellsOf 26 = 8 := by kernel_rfl
theorem cells22 : Try.prog.cellsOf 22 = 1 := by kernel_rfl
theorem cells23 : Try.prog.cellsOf 23 = 1 := by kernel_rfl
theorem cells24 : Try.prog.cellsOf 24 = 1 := by kernel_rfl
theorem cells29 : Try.prog.cellsOf 29 = 1 := by kernel_rfl
theorem cells3 : Try.prog.cellsOf 3 = 1 := by kernel_rfl
theorem cells9 : Try.prog.cellsOf 9 = 1 := by kernel_rfl
theorem cells31 : Try.prog.cellsOf 31 = 2 := by kernel_rfl
theorem cells33 : Try.prog.cellsOf 33 = 3 := by kernel_rfl
theorem bytes9 : Try.prog.bytesOf 9 = 16 := by kernel_rfl
theorem bytes3 : Try.prog.bytesOf 3 = 8 := by kernel_rfl
theorem bytes31 : Try.prog.bytesOf 31 = 32 := by kernel_rfl
theorem bytes33 : Try.prog.bytesOf 33 = 24 := by kernel_rfl
instance : Nonempty S33 := ⟨z33⟩
section
variable {H : Type} {enc : TypeId × Value → H} {W : World} {held : Bool}
theorem len1 {l : List Value} {o n : Nat} {c : Value} (h : l[o]? = some c) (hn : n = 1) : (l.drop o).take n = [c] := by
  subst hn
  obtain ⟨hlt, hc⟩ := List.getElem?_eq_some_iff.1 h
  rw [List.drop_eq_getElem_cons hlt, hc]
  rfl
theorem reads_ins : Reads enc Try.prog W (fun _ => true) held 33 (fun (x : S33) cs => k33.K W x cs) := by
  intro fuel cs d ps h hw
  obtain ⟨hl, hF⟩ := reads_fields Try.underlying33 h hw
  rw [cells33] at hl
  match cs, hl with
  | [c0, c1, c2], _ =>
    obtain ⟨x0, h0, _⟩ := hF 0 _ rfl (reads_int Try.underlying3)
    obtain ⟨x1, h1, _⟩ := hF 1 _ rfl (reads_int Try.underlying3)
    obtain ⟨x2, h2, _⟩ := hF 2 _ rfl (reads_int Try.underlying3)
    rw [len1 (c := c0) rfl cells3] at h0
    rw [len1 (c := c1) rfl cells3] at h1
    rw [len1 (c := c2) rfl cells3] at h2
    injection h0 with h0
    injection h1 with h1
    injection h2 with h2
    subst h0 h1 h2
    exact ⟨⟨x0, x1, x2⟩, k33_mk W ⟨x0, x1, x2⟩⟩
def segS (W : World) (x : Int × Option (List S33)) (cs : List Value) : Prop := ∃ v, cs = [.int .i64 x.1, v] ∧ SlR (k33.K W) 3 24 W x.2 [v]
theorem reads_seg : Reads enc Try.prog W (fun _ => true) held 31 (segS W) := by
  intro fuel cs d ps h hw
  obtain ⟨hl, hF⟩ := reads_fields Try.underlying31 h hw
  rw [cells31] at hl
  match cs, hl with
  | [c0, c1], _ =>
    obtain ⟨x0, h0, _⟩ := hF 0 _ rfl (reads_int Try.underlying3)
    obtain ⟨x1, h1⟩ := hF 1 _ rfl (reads_slice (α := S33) Try.underlying29 cells33 bytes33 reads_ins)
    rw [len1 (c := c0) rfl cells3] at h0
    rw [len1 (c := c1) rfl cells29] at h1
    injection h0 with h0
    subst h0
    exact ⟨(x0, x1), c1, rfl, h1⟩
theorem segS_R {x : Int × Option (List S33)} {cs : List Value} (h : segS W x cs) : segR W x cs := by
  obtain ⟨v, rfl, hv⟩ := h
  refine ⟨v, rfl, ?_⟩
  obtain ⟨xd, xc⟩ := x
  cases xc with
  | none => injection (hv : [v] = [.slice none 0 0])
  | some l =>
    obtain ⟨A, c, h1, h2, _, _, h5⟩ := hv
    injection h1 with h1
    exact ⟨A, c, h1, h2, h5⟩
/-- A program that came in, opened. -/
theorem pd_open {r : Reach} {base : Nat} {v : Value} {d : DataW H} {p : List MemPlace} (hv : Value.okWide Try.prog W r base 26 v) (h : DataW.Trod enc Try.prog W 0 (fun _ => true) held 26 v d p) (hw : ∀ x ∈ d.weights Try.prog 26, x ≤ 140737488351232) :
    ∃ q : PD, v = .agg #[.slice q.A0 q.l0.length q.c0, .slice q.A1 q.l1.length q.c1, .slice q.A2 q.l2.length q.c2, .int .i64 q.h, .int .i64 q.c, .int .i64 q.s, .int .i64 q.st, .slice q.A3 q.ds.length q.c3] ∧ q.Ok W := by
  obtain ⟨cs, rfl, hsz⟩ := okWide_struct Try.underlying26 hv
  obtain ⟨fuel, hf⟩ := h
  obtain ⟨_, hF⟩ := reads_fields Try.underlying26 hf hw
  rw [cells26] at hsz
  obtain ⟨l, rfl⟩ : ∃ l : List Value, cs = l.toArray := ⟨cs.toList, by simp⟩
  have hl : l.length = 8 := by simpa using hsz
  match l, hl with
  | [c0, c1, c2, c3, c4, c5, c6, c7], _ =>
    simp only [Value.cells] at hF
    obtain ⟨x0, h0⟩ := hF 0 _ rfl (reads_slice (α := ByteArray) Try.underlying22 cells9 bytes9 (reads_string Try.underlying9))
    obtain ⟨x1, h1⟩ := hF 1 _ rfl (reads_slice (α := ByteArray) Try.underlying22 cells9 bytes9 (reads_string Try.underlying9))
    obtain ⟨x2, h2⟩ := hF 2 _ rfl (reads_slice (α := Int) Try.underlying23 cells3 bytes3 (reads_int Try.underlying3))
    obtain ⟨x3, h3, _⟩ := hF 3 _ rfl (reads_int Try.underlying3)
    obtain ⟨x4, h4, _⟩ := hF 4 _ rfl (reads_int Try.underlying3)
    obtain ⟨x5, h5, _⟩ := hF 5 _ rfl (reads_int Try.underlying3)
    obtain ⟨x6, h6, _⟩ := hF 6 _ rfl (reads_int Try.underlying3)
    obtain ⟨x7, h7⟩ := hF 7 _ rfl (reads_slice (α := Int × Option (List S33)) Try.underlying24 cells31 bytes31 reads_seg)
    rw [len1 (c := c0) rfl cells22] at h0
    rw [len1 (c := c1) rfl cells22] at h1
    rw [len1 (c := c2) rfl cells23] at h2
    rw [len1 (c := c3) rfl cells3] at h3
    rw [len1 (c := c4) rfl cells3] at h4
    rw [len1 (c := c5) rfl cells3] at h5
    rw [len1 (c := c6) rfl cells3] at h6
    rw [len1 (c := c7) rfl cells24] at h7
    injection h3 with h3
    injection h4 with h4
    injection h5 with h5
    injection h6 with h6
    obtain ⟨A0, k0, l0, rfl, _, z0, y0, b0, r0⟩ := h0.open_
    obtain ⟨A1, k1, l1, rfl, _, z1, y1, b1, r1⟩ := h1.open_
    obtain ⟨A2, k2, l2, rfl, _, z2, y2, b2, r2⟩ := h2.open_
    obtain ⟨A7, k7, l7, rfl, _, z7, y7, b7, r7⟩ := h7.open_
    subst h3 h4 h5 h6
    refine ⟨⟨A0, k0, A1, k1, A2, k2, A7, k7, l0, l1, l2, x3, x4, x5, x6, l7⟩, rfl, ⟨z0, z1, z2, z7, y0, y1, y2, y7, b0, b1, b2, b7, r0.imp_ (Below.refl _ _) (fun _ _ hh => hh.1), r1.imp_ (Below.refl _ _) (fun _ _ hh => hh.1), r2.imp_ (Below.refl _ _) (fun _ _ hh => hh.1), r7.imp_ (Below.refl _ _) (fun _ _ hh => segS_R hh), ?_⟩⟩
    intro x hx l hxl
    obtain ⟨i, hi, hxi⟩ := List.mem_iff_getElem.1 hx
    have hi2 : i < l7.length := hi
    obtain ⟨ad, _, hc⟩ := r7.2.2 (by omega)
    obtain ⟨c, _, ⟨v, _, hv⟩, _⟩ := hc i x (by rw [List.getElem?_eq_getElem hi, hxi])
    rw [hxl] at hv
    obtain ⟨_, _, _, _, _, h4, _⟩ := hv
    exact h4
end
theorem own : ownKnob Try.prog.godebug = none := by kernel_rfl
theorem laidOut : laidOutB Try.prog = true := by kernel_rfl
set_option maxRecDepth 100000 in
theorem lifted (os : Os) (started : os.Started) (H : Type) (enc : TypeId × Value → H) :
    ReturnsInHanded {} Try.checked os 3 .any (Rows.imageEqualsSpec.pre6 enc Try.prog Try.f3 Rows.imageEqualsRow.domain false) (Rows.imageEqualsSpec.post enc Try.prog Try.f3 false true false false) := by
  refine returnsInHanded_of_change_sized (C := Try.checked) own started (by kernel_rfl) Try.func3
    (ChangeSpec.witness6 (enc := enc) (C := Try.checked) false ⟨#[], #[.agg #[.slice none 0 0, .slice none 0 0, .slice none 0 0, .int .i64 0, .int .i64 0, .int .i64 0, .int .i64 0, .slice none 0 0], .agg #[.slice none 0 0, .slice none 0 0, .slice none 0 0, .int .i64 0, .int .i64 0, .int .i64 0, .int .i64 0, .slice none 0 0]], []⟩ 8 (by kernel_rfl) (by kernel_rfl) (by kernel_rfl) (by kernel_rfl)) ?_
  intro W base args ds gs before hval0 hW hcnd hsz0 _
  have hsz : (DataW.weightsEach Try.prog (Try.f3.params.toList ++ Rows.imageEqualsSpec.plain.varTypes Try.prog) (ds ++ gs)).all (· ≤ reachBytes) = true := hsz0
  have hval : ∀ (j : Nat) t v, Try.f3.params[j]? = some t → args[j]? = some v → Value.okWide Try.prog W .any base t v := hval0
  have hW' := hW
  obtain ⟨p, q, hA0, hV, rfl, hfz, hnd⟩ := hW
  have hA : DataW.TrodAll enc Try.prog W 0 (fun _ => true) true Try.f3.params.toList args.toList ds p := hA0
  rw [Try.params3] at hA hval hsz
  obtain ⟨v0, vs0, d0, ds0, p0, q0, hargs, rfl, rfl, h0, r0⟩ := trodAll_cons hA
  obtain ⟨v1, vs1, d1, ds1, p1, q1, rfl, rfl, rfl, h1, r1⟩ := trodAll_cons r0
  obtain ⟨rfl, rfl, rfl⟩ := trodAll_nil r1
  obtain rfl : args = #[v0, v1] := by cases args; simp_all
  obtain ⟨rfl, rfl⟩ := trodVars_none hV
  have k0 := h0
  have lt0 : ∀ x ∈ p0, x.block < W.heap.size := by obtain ⟨m, hm⟩ := k0; exact DataW.trod_lt m _ _ _ hm
  have k1 := h1
  have lt1 : ∀ x ∈ p1, x.block < W.heap.size := by obtain ⟨m, hm⟩ := k1; exact DataW.trod_lt m _ _ _ hm
  have hwe : ∀ x ∈ DataW.weightsEach Try.prog ([26, 26] ++ Rows.imageEqualsSpec.plain.varTypes Try.prog) ([d0, d1] ++ []), x ≤ 140737488351232 := fun x hx => by
    have := List.all_eq_true.1 hsz x hx
    exact of_decide_eq_true this
  obtain ⟨a, rfl, ha⟩ := pd_open (hval 0 26 v0 rfl rfl) h0 (fun x hx => hwe x (weights_each 0 rfl rfl x hx))
  obtain ⟨b, rfl, hb⟩ := pd_open (hval 1 26 v1 rfl rfl) h1 (fun x hx => hwe x (weights_each 1 rfl rfl x hx))
  clear hA0 hval0 hsz0 hsz hwe
  refine (law_calls a b W ha hb).mono fun e W' ⟨he, bel⟩ => ?_
  subst he
  exact ⟨_, rfl, _, _, _, [], _, [], hW', trodAll_mk1 (shut_bool Try.underlying4 _), (trodAll_cons_mk (Below.trod laidOut (by kernel_rfl) (of_decide_eq_true (by kernel_rfl)) k0 bel lt0) (trodAll_cons_mk (Below.trod laidOut (by kernel_rfl) (of_decide_eq_true (by kernel_rfl)) k1 bel lt1) trodAll_mk0)), rfl, bel.frame _, fun h => by cases h⟩
theorem over : Rows.imageEqualsRow.holds Try.pinned (OpenSpec.ofChange Rows.imageEqualsSpec) :=
  OpenClaim.holds_of_wide 3 Try.f3 rfl rfl rfl rfl rfl rfl rfl ⟨rfl, rfl, rfl, rfl, rfl⟩ rfl rfl rfl rfl rfl (by kernel_rfl) Try.func3 (by kernel_rfl)
    (of_decide_eq_true (by kernel_rfl)) (by unfold Func.isWrapper; first | (rw [if_pos (by decide +kernel)]; kernel_rfl) | (rw [if_neg (by decide +kernel)]; exact ⟨rfl, rfl⟩))
    (fun os started H enc _ => lifted os started H enc)
theorem proved : Rows.ImageEqualsSaid := over
#print axioms proved
end Go.Proofs.Ytmhndfnmdkeiaaa.RowW
namespace Go.Proofs.Ytmhndfnmdkeiaaa
/-- The row, under a short name, for the claim. -/
theorem imageEquals_holds : Rows.ImageEqualsSaid := RowW.proved
end Go.Proofs.Ytmhndfnmdkeiaaa
