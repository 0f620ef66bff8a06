/- ImageCanons, for every input: the law's function answers true, and each argument reads behind the call as it read before; the two tables that it reads are tied to the program's text. No condition. -/
import Derived.Test.YtmhndfnmdkeiaaaDoorRows
import Derived.Test.YtmhndfnmdkeiaaaDoorCards
import Derived.Test.YtmhndfnmdkeiaaaDoorTie
import Derived.Test.YtmhndfnmdkeiaaaDoorLawCn
import Derived.Test.YtmhndfnmdkeiaaaDoorOpen
import Derived.WalkKit
import Derived.ProofKit
import Derived.OpenShut
import Derived.ShutString
import Derived.ChangeOld
import Derived.Below
import Derived.SizedLaws
import Derived.LaidMore
import Derived.Lay
import Derived.SevenTiedAt
import Derived.Stop.Joined
namespace Go.Proofs.YtmhndfnmdkeiaaaDoor.RowW
open Go.ChangeShapes Go.WideShapes Go.ChangeAt Go.RowKit
open Go.Proofs.YtmhndfnmdkeiaaaDoorW.PrintWords Go.Proofs.YtmhndfnmdkeiaaaDoorW.PrintLast Go.Proofs.YtmhndfnmdkeiaaaDoorW.PrintMore
open PEqual KitW EqW RefEq OwnW IntactW Cn LawW
set_option linter.unusedVariables false
set_option maxRecDepth 100000
set_option linter.unusedSimpArgs false
theorem cells26 : Tryd.prog.cellsOf 26 = 8 := by kernel_rfl
theorem cells22 : Tryd.prog.cellsOf 22 = 1 := by kernel_rfl
theorem cells23 : Tryd.prog.cellsOf 23 = 1 := by kernel_rfl
theorem cells24 : Tryd.prog.cellsOf 24 = 1 := by kernel_rfl
theorem cells52 : Tryd.prog.cellsOf 52 = 1 := by kernel_rfl
theorem cells3 : Tryd.prog.cellsOf 3 = 1 := by kernel_rfl
theorem cells9 : Tryd.prog.cellsOf 9 = 1 := by kernel_rfl
theorem cells54 : Tryd.prog.cellsOf 54 = 2 := by kernel_rfl
theorem cells56 : Tryd.prog.cellsOf 56 = 3 := by kernel_rfl
theorem bytes9 : Tryd.prog.bytesOf 9 = 16 := by kernel_rfl
theorem bytes3 : Tryd.prog.bytesOf 3 = 8 := by kernel_rfl
theorem bytes54 : Tryd.prog.bytesOf 54 = 32 := by kernel_rfl
theorem bytes56 : Tryd.prog.bytesOf 56 = 24 := by kernel_rfl
instance : Nonempty S56 := ⟨z56⟩
section
variable {H : Type} {enc : TypeId × Value → H} {W : World} {held : Bool}
theorem len1 {l : List Value} {o n : Nat} {c : Value} (h : l[o]? = some c) (hn : n = 1) : (l.drop o).take n = [c] := by
  subst hn
  obtain ⟨hlt, hc⟩ := List.getElem?_eq_some_iff.1 h
  rw [List.drop_eq_getElem_cons hlt, hc]
  rfl
theorem reads_ins : Reads enc Tryd.prog W (fun _ => true) held 56 (fun (x : S56) cs => k56.K W x cs) := by
  intro fuel cs d ps h hw
  obtain ⟨hl, hF⟩ := reads_fields Tryd.underlying56 h hw
  rw [cells56] at hl
  match cs, hl with
  | [c0, c1, c2], _ =>
    obtain ⟨x0, h0, _⟩ := hF 0 _ rfl (reads_int Tryd.underlying3)
    obtain ⟨x1, h1, _⟩ := hF 1 _ rfl (reads_int Tryd.underlying3)
    obtain ⟨x2, h2, _⟩ := hF 2 _ rfl (reads_int Tryd.underlying3)
    rw [len1 (c := c0) rfl cells3] at h0
    rw [len1 (c := c1) rfl cells3] at h1
    rw [len1 (c := c2) rfl cells3] at h2
    injection h0 with h0
    injection h1 with h1
    injection h2 with h2
    subst h0 h1 h2
    exact ⟨⟨x0, x1, x2⟩, k56_mk W ⟨x0, x1, x2⟩⟩
def segS (W : World) (x : Int × Option (List S56)) (cs : List Value) : Prop := ∃ v, cs = [.int .i64 x.1, v] ∧ SlR (k56.K W) 3 24 W x.2 [v]
theorem reads_seg : Reads enc Tryd.prog W (fun _ => true) held 54 (segS W) := by
  intro fuel cs d ps h hw
  obtain ⟨hl, hF⟩ := reads_fields Tryd.underlying54 h hw
  rw [cells54] at hl
  match cs, hl with
  | [c0, c1], _ =>
    obtain ⟨x0, h0, _⟩ := hF 0 _ rfl (reads_int Tryd.underlying3)
    obtain ⟨x1, h1⟩ := hF 1 _ rfl (reads_slice (α := S56) Tryd.underlying52 cells56 bytes56 reads_ins)
    rw [len1 (c := c0) rfl cells3] at h0
    rw [len1 (c := c1) rfl cells52] at h1
    injection h0 with h0
    subst h0
    exact ⟨(x0, x1), c1, rfl, h1⟩
theorem segS_R {x : Int × Option (List S56)} {cs : List Value} (h : segS W x cs) : segR W x cs := by
  obtain ⟨v, rfl, hv⟩ := h
  refine ⟨v, rfl, ?_⟩
  obtain ⟨xd, xc⟩ := x
  cases xc with
  | none => injection (hv : [v] = [.slice none 0 0])
  | some l =>
    obtain ⟨A, c, h1, h2, _, _, h5⟩ := hv
    injection h1 with h1
    exact ⟨A, c, h1, h2, h5⟩
/-- A program that came in, opened. -/
theorem pd_open {r : Reach} {base : Nat} {v : Value} {d : DataW H} {p : List MemPlace} (hv : Value.okWide Tryd.prog W r base 26 v) (h : DataW.Trod enc Tryd.prog W 0 (fun _ => true) held 26 v d p) (hw : ∀ x ∈ d.weights Tryd.prog 26, x ≤ 140737488351232) :
    ∃ q : PD, v = .agg #[.slice q.A0 q.l0.length q.c0, .slice q.A1 q.l1.length q.c1, .slice q.A2 q.l2.length q.c2, .int .i64 q.h, .int .i64 q.c, .int .i64 q.s, .int .i64 q.st, .slice q.A3 q.ds.length q.c3] ∧ q.Ok W ∧ ∀ s ∈ q.l0, s.size ≤ 140737488351232 := by
  obtain ⟨cs, rfl, hsz⟩ := okWide_struct Tryd.underlying26 hv
  obtain ⟨fuel, hf⟩ := h
  obtain ⟨_, hF⟩ := reads_fields Tryd.underlying26 hf hw
  rw [cells26] at hsz
  obtain ⟨l, rfl⟩ : ∃ l : List Value, cs = l.toArray := ⟨cs.toList, by simp⟩
  have hl : l.length = 8 := by simpa using hsz
  match l, hl with
  | [c0, c1, c2, c3, c4, c5, c6, c7], _ =>
    simp only [Value.cells] at hF
    obtain ⟨x0, h0⟩ := hF 0 _ rfl (reads_slice (α := ByteArray) Tryd.underlying22 cells9 bytes9 (reads_string Tryd.underlying9))
    obtain ⟨x1, h1⟩ := hF 1 _ rfl (reads_slice (α := ByteArray) Tryd.underlying22 cells9 bytes9 (reads_string Tryd.underlying9))
    obtain ⟨x2, h2⟩ := hF 2 _ rfl (reads_slice (α := Int) Tryd.underlying23 cells3 bytes3 (reads_int Tryd.underlying3))
    obtain ⟨x3, h3, _⟩ := hF 3 _ rfl (reads_int Tryd.underlying3)
    obtain ⟨x4, h4, _⟩ := hF 4 _ rfl (reads_int Tryd.underlying3)
    obtain ⟨x5, h5, _⟩ := hF 5 _ rfl (reads_int Tryd.underlying3)
    obtain ⟨x6, h6, _⟩ := hF 6 _ rfl (reads_int Tryd.underlying3)
    obtain ⟨x7, h7⟩ := hF 7 _ rfl (reads_slice (α := Int × Option (List S56)) Tryd.underlying24 cells54 bytes54 reads_seg)
    rw [len1 (c := c0) rfl cells22] at h0
    rw [len1 (c := c1) rfl cells22] at h1
    rw [len1 (c := c2) rfl cells23] at h2
    rw [len1 (c := c3) rfl cells3] at h3
    rw [len1 (c := c4) rfl cells3] at h4
    rw [len1 (c := c5) rfl cells3] at h5
    rw [len1 (c := c6) rfl cells3] at h6
    rw [len1 (c := c7) rfl cells24] at h7
    injection h3 with h3
    injection h4 with h4
    injection h5 with h5
    injection h6 with h6
    obtain ⟨A0, k0, l0, rfl, _, z0, y0, b0, r0⟩ := h0.open_
    obtain ⟨A1, k1, l1, rfl, _, z1, y1, b1, r1⟩ := h1.open_
    obtain ⟨A2, k2, l2, rfl, _, z2, y2, b2, r2⟩ := h2.open_
    obtain ⟨A7, k7, l7, rfl, _, z7, y7, b7, r7⟩ := h7.open_
    subst h3 h4 h5 h6
    refine ⟨⟨A0, k0, A1, k1, A2, k2, A7, k7, l0, l1, l2, x3, x4, x5, x6, l7⟩, rfl, ⟨z0, z1, z2, z7, y0, y1, y2, y7, b0, b1, b2, b7, r0.imp_ (Below.refl _ _) (fun _ _ hh => hh.1), r1.imp_ (Below.refl _ _) (fun _ _ hh => hh.1), r2.imp_ (Below.refl _ _) (fun _ _ hh => hh.1), r7.imp_ (Below.refl _ _) (fun _ _ hh => segS_R hh), ?_⟩, ?_⟩
    rotate_left
    · intro s hs
      obtain ⟨i, hi, rfl⟩ := List.mem_iff_getElem.1 hs
      have hi2 : i < l0.length := hi
      obtain ⟨ad, _, hc⟩ := r0.2.2 (by omega)
      obtain ⟨c, _, ⟨_, hv⟩, _⟩ := hc i _ (List.getElem?_eq_getElem hi)
      exact hv
    intro x hx l hxl
    obtain ⟨i, hi, hxi⟩ := List.mem_iff_getElem.1 hx
    have hi2 : i < l7.length := hi
    obtain ⟨ad, _, hc⟩ := r7.2.2 (by omega)
    obtain ⟨c, _, ⟨v, _, hv⟩, _⟩ := hc i x (by rw [List.getElem?_eq_getElem hi, hxi])
    rw [hxl] at hv
    obtain ⟨_, _, _, _, _, h4, _⟩ := hv
    exact h4
end
theorem own : ownKnob Tryd.prog.godebug = none := by kernel_rfl
theorem laidOut : laidOutB Tryd.prog = true := by kernel_rfl
section
variable {W : World} {sp : Nat → Bool} {held : Bool} {m : Nat}
theorem fint {t o : Nat} {k : IntKind} {v : Int} {cs : List Value} {x : DataW Unit × List MemPlace} (ht : Tryd.prog.underlying t = some (.int k)) (hc : Tryd.prog.cellsOf t = 1) (h : DataW.trod (fun _ => ()) Tryd.prog W 0 sp held m t ((cs.drop o).take (Tryd.prog.cellsOf t)) = some x) (hx : x.1 = .lit (.int k v)) : cs[o]? = some (.int k v) := by
  obtain ⟨n, e1, e2, _⟩ := DataW.trod_int ht h
  rw [e2] at hx
  injection hx with hx
  injection hx with _ hx
  subst hx
  rw [hc] at e1
  have h0 : ((cs.drop o).take 1)[0]? = some (.int k n) := by rw [e1]; rfl
  simpa using h0
theorem fstr {t o : Nat} {s : List UInt8} {cs : List Value} {x : DataW Unit × List MemPlace} (ht : Tryd.prog.underlying t = some .string) (hc : Tryd.prog.cellsOf t = 1) (h : DataW.trod (fun _ => ()) Tryd.prog W 0 sp held m t ((cs.drop o).take (Tryd.prog.cellsOf t)) = some x) (hx : x.1 = .lit (.string s)) : cs[o]? = some (.string ⟨s.toArray⟩) := by
  obtain ⟨n, e1, e2, _⟩ := DataW.trod_string ht h
  rw [e2] at hx
  injection hx with hx
  injection hx with hx
  subst hx
  rw [hc] at e1
  have h0 : ((cs.drop o).take 1)[0]? = some (.string n) := by rw [e1]; rfl
  simpa using h0
end
theorem g_kinds : Tryd.prog.globalNamed "payoff/code.kinds" = some 0 := by kernel_rfl
theorem t_kinds : (Tryd.prog.globals[0]?).map (·.type) = some 131 := by kernel_rfl
theorem e_kinds : (Rows.laid_payoff_code_kinds : DataW Unit) = .agg ((List.range 29).map fun i => .agg [.lit (.string (kNl.getD i ⟨#[]⟩).data.toList), .lit (.int .i64 (kOl.getD i 0)), .lit (.int .i64 (kAl.getD i 0)), .lit (.int .i64 (kBl.getD i 0)), .lit (.int .i64 (kTl.getD i 0)), .lit (.int .i64 (kPl.getD i 0))]) := by kernel_rfl
theorem cells130 : Tryd.prog.cellsOf 130 = 6 := by kernel_rfl
theorem row_kinds {sp : Nat → Bool} {held : Bool} {m : Nat} {W : World} {cs : List Value} {x : DataW Unit × List MemPlace} {s : List UInt8} {a1 : Int} {a2 : Int} {a3 : Int} {a4 : Int} {a5 : Int} (h : DataW.trod (fun _ => ()) Tryd.prog W 0 sp held m 130 cs = some x) (hx : x.1 = .agg [.lit (.string s), .lit (.int .i64 a1), .lit (.int .i64 a2), .lit (.int .i64 a3), .lit (.int .i64 a4), .lit (.int .i64 a5)]) :
    cs[0]? = some (.string ⟨s.toArray⟩) ∧ cs[1]? = some (.int .i64 a1) ∧ cs[2]? = some (.int .i64 a2) ∧ cs[3]? = some (.int .i64 a3) ∧ cs[4]? = some (.int .i64 a4) ∧ cs[5]? = some (.int .i64 a5) := by
  obtain ⟨xs, k, _, rfl, _, hlen, hf⟩ := DataW.trod_struct Tryd.underlying130 h
  match xs, hlen with
  | [x0, x1, x2, x3, x4, x5], _ =>
    simp only [List.map_cons, List.map_nil] at hx
    injection hx with hx
    simp only [List.cons.injEq, and_true] at hx
    obtain ⟨h0, h1, h2, h3, h4, h5⟩ := hx
    exact ⟨fstr Tryd.underlying9 cells9 (hf 0 _ rfl) h0, fint Tryd.underlying3 cells3 (hf 1 _ rfl) h1, fint Tryd.underlying3 cells3 (hf 2 _ rfl) h2, fint Tryd.underlying3 cells3 (hf 3 _ rfl) h3, fint Tryd.underlying3 cells3 (hf 4 _ rfl) h4, fint Tryd.underlying3 cells3 (hf 5 _ rfl) h5⟩
theorem kinds_of {W : World} {cs : Array Value} {sp : Nat → Bool} {held : Bool} {m : Nat} {ps : List MemPlace} (hv : W.var? Tryd.prog "payoff/code.kinds" = some cs) (hd : DataW.trod (fun _ => ()) Tryd.prog W 0 sp held m 131 cs.toList = some (Rows.laid_payoff_code_kinds, ps)) : Lk W := by
  rw [e_kinds] at hd
  obtain ⟨xs, k, _, ex, _, hl, hel⟩ := DataW.trod_array Tryd.underlying131 hd
  injection ex with ex _
  injection ex with ex
  have key : ∀ i : Nat, i < 29 → ((cs.toList.drop (i * 6)).take 6)[0]? = some (.string (kNl.getD i ⟨#[]⟩)) ∧ ((cs.toList.drop (i * 6)).take 6)[1]? = some (.int .i64 (kOl.getD i 0)) ∧ ((cs.toList.drop (i * 6)).take 6)[2]? = some (.int .i64 (kAl.getD i 0)) ∧ ((cs.toList.drop (i * 6)).take 6)[3]? = some (.int .i64 (kBl.getD i 0)) ∧ ((cs.toList.drop (i * 6)).take 6)[4]? = some (.int .i64 (kTl.getD i 0)) ∧ ((cs.toList.drop (i * 6)).take 6)[5]? = some (.int .i64 (kPl.getD i 0)) := by
    intro i hi
    have hE := hel i hi
    rw [cells130] at hE
    have hi2 : i < xs.length := by omega
    rw [List.getElem?_eq_getElem hi2] at hE
    have hx : (xs[i]).1 = .agg [.lit (.string (kNl.getD i ⟨#[]⟩).data.toList), .lit (.int .i64 (kOl.getD i 0)), .lit (.int .i64 (kAl.getD i 0)), .lit (.int .i64 (kBl.getD i 0)), .lit (.int .i64 (kTl.getD i 0)), .lit (.int .i64 (kPl.getD i 0))] := by
      have e3 := congrArg (fun l => l[i]?) ex
      simp only [List.getElem?_map, List.getElem?_eq_getElem hi2, List.getElem?_range hi, Option.map_some, Option.some.injEq] at e3
      exact e3.symm
    exact row_kinds hE hx
  have cell : ∀ (i : Int) (j : Nat), 0 ≤ i → i < 29 → j < 6 → W.cell? ⟨0, i.toNat * 6 + j, none⟩ = ((cs.toList.drop (i.toNat * 6)).take 6)[j]? := by
    intro i j h0 h1 hj
    rw [World.var?_cell g_kinds hv, List.getElem?_take_of_lt hj, List.getElem?_drop, Array.getElem?_toList]
  have kk : ∀ i : Int, 0 ≤ i → i < 29 → kn i = true := by intro i h0 h1; unfold kn; simp; omega
  exact ⟨by intro i h0 h1; have := cell i 0 h0 h1 (by omega); unfold kN; rw [kk i h0 h1, if_pos rfl, ← (key i.toNat (by omega)).1, ← this]; rfl, by intro i h0 h1; have := cell i 1 h0 h1 (by omega); unfold kO; rw [kk i h0 h1, if_pos rfl, ← (key i.toNat (by omega)).2.1, ← this], by intro i h0 h1; have := cell i 2 h0 h1 (by omega); unfold kA; rw [kk i h0 h1, if_pos rfl, ← (key i.toNat (by omega)).2.2.1, ← this], by intro i h0 h1; have := cell i 3 h0 h1 (by omega); unfold kB; rw [kk i h0 h1, if_pos rfl, ← (key i.toNat (by omega)).2.2.2.1, ← this], by intro i h0 h1; have := cell i 4 h0 h1 (by omega); unfold kT; rw [kk i h0 h1, if_pos rfl, ← (key i.toNat (by omega)).2.2.2.2.1, ← this], by intro i h0 h1; have := cell i 5 h0 h1 (by omega); unfold kP; rw [kk i h0 h1, if_pos rfl, ← (key i.toNat (by omega)).2.2.2.2.2, ← this]⟩
theorem g_table : Tryd.prog.globalNamed "payoff/payoffref11.table" = some 1 := by kernel_rfl
theorem t_table : (Tryd.prog.globals[1]?).map (·.type) = some 155 := by kernel_rfl
theorem e_table : (Rows.laid_payoff_payoffref11_table : DataW Unit) = .agg ((List.range 29).map fun i => .agg [.lit (.string (rNl.getD i ⟨#[]⟩).data.toList), .lit (.int .i64 (rAl.getD i 0)), .lit (.int .i64 (rBl.getD i 0)), .lit (.int .i64 (rTl.getD i 0)), .lit (.int .i64 (rPl.getD i 0))]) := by kernel_rfl
theorem cells142 : Tryd.prog.cellsOf 142 = 5 := by kernel_rfl
theorem row_table {sp : Nat → Bool} {held : Bool} {m : Nat} {W : World} {cs : List Value} {x : DataW Unit × List MemPlace} {s : List UInt8} {a1 : Int} {a2 : Int} {a3 : Int} {a4 : Int} (h : DataW.trod (fun _ => ()) Tryd.prog W 0 sp held m 142 cs = some x) (hx : x.1 = .agg [.lit (.string s), .lit (.int .i64 a1), .lit (.int .i64 a2), .lit (.int .i64 a3), .lit (.int .i64 a4)]) :
    cs[0]? = some (.string ⟨s.toArray⟩) ∧ cs[1]? = some (.int .i64 a1) ∧ cs[2]? = some (.int .i64 a2) ∧ cs[3]? = some (.int .i64 a3) ∧ cs[4]? = some (.int .i64 a4) := by
  obtain ⟨xs, k, _, rfl, _, hlen, hf⟩ := DataW.trod_struct Tryd.underlying142 h
  match xs, hlen with
  | [x0, x1, x2, x3, x4], _ =>
    simp only [List.map_cons, List.map_nil] at hx
    injection hx with hx
    simp only [List.cons.injEq, and_true] at hx
    obtain ⟨h0, h1, h2, h3, h4⟩ := hx
    exact ⟨fstr Tryd.underlying9 cells9 (hf 0 _ rfl) h0, fint Tryd.underlying3 cells3 (hf 1 _ rfl) h1, fint Tryd.underlying3 cells3 (hf 2 _ rfl) h2, fint Tryd.underlying3 cells3 (hf 3 _ rfl) h3, fint Tryd.underlying3 cells3 (hf 4 _ rfl) h4⟩
theorem table_of {W : World} {cs : Array Value} {sp : Nat → Bool} {held : Bool} {m : Nat} {ps : List MemPlace} (hv : W.var? Tryd.prog "payoff/payoffref11.table" = some cs) (hd : DataW.trod (fun _ => ()) Tryd.prog W 0 sp held m 155 cs.toList = some (Rows.laid_payoff_payoffref11_table, ps)) : Lr W := by
  rw [e_table] at hd
  obtain ⟨xs, k, _, ex, _, hl, hel⟩ := DataW.trod_array Tryd.underlying155 hd
  injection ex with ex _
  injection ex with ex
  have key : ∀ i : Nat, i < 29 → ((cs.toList.drop (i * 5)).take 5)[0]? = some (.string (rNl.getD i ⟨#[]⟩)) ∧ ((cs.toList.drop (i * 5)).take 5)[1]? = some (.int .i64 (rAl.getD i 0)) ∧ ((cs.toList.drop (i * 5)).take 5)[2]? = some (.int .i64 (rBl.getD i 0)) ∧ ((cs.toList.drop (i * 5)).take 5)[3]? = some (.int .i64 (rTl.getD i 0)) ∧ ((cs.toList.drop (i * 5)).take 5)[4]? = some (.int .i64 (rPl.getD i 0)) := by
    intro i hi
    have hE := hel i hi
    rw [cells142] at hE
    have hi2 : i < xs.length := by omega
    rw [List.getElem?_eq_getElem hi2] at hE
    have hx : (xs[i]).1 = .agg [.lit (.string (rNl.getD i ⟨#[]⟩).data.toList), .lit (.int .i64 (rAl.getD i 0)), .lit (.int .i64 (rBl.getD i 0)), .lit (.int .i64 (rTl.getD i 0)), .lit (.int .i64 (rPl.getD i 0))] := by
      have e3 := congrArg (fun l => l[i]?) ex
      simp only [List.getElem?_map, List.getElem?_eq_getElem hi2, List.getElem?_range hi, Option.map_some, Option.some.injEq] at e3
      exact e3.symm
    exact row_table hE hx
  have cell : ∀ (i : Int) (j : Nat), 0 ≤ i → i < 29 → j < 5 → W.cell? ⟨1, i.toNat * 5 + j, none⟩ = ((cs.toList.drop (i.toNat * 5)).take 5)[j]? := by
    intro i j h0 h1 hj
    rw [World.var?_cell g_table hv, List.getElem?_take_of_lt hj, List.getElem?_drop, Array.getElem?_toList]
  have kk : ∀ i : Int, 0 ≤ i → i < 29 → kn i = true := by intro i h0 h1; unfold kn; simp; omega
  exact ⟨by intro i h0 h1; have := cell i 0 h0 h1 (by omega); unfold rN; rw [kk i h0 h1, if_pos rfl, ← (key i.toNat (by omega)).1, ← this]; rfl, by intro i h0 h1; have := cell i 1 h0 h1 (by omega); unfold rA; rw [kk i h0 h1, if_pos rfl, ← (key i.toNat (by omega)).2.1, ← this], by intro i h0 h1; have := cell i 2 h0 h1 (by omega); unfold rB; rw [kk i h0 h1, if_pos rfl, ← (key i.toNat (by omega)).2.2.1, ← this], by intro i h0 h1; have := cell i 3 h0 h1 (by omega); unfold rT; rw [kk i h0 h1, if_pos rfl, ← (key i.toNat (by omega)).2.2.2.1, ← this], by intro i h0 h1; have := cell i 4 h0 h1 (by omega); unfold rP; rw [kk i h0 h1, if_pos rfl, ← (key i.toNat (by omega)).2.2.2.2, ← this]⟩
abbrev laid2 : List (String × DataW Unit) := Rows.imageCanonsRow.laid
theorem of_laid {W : World} (h : laidMetH Tryd.prog laid2 W) : Lk W ∧ Lr W := by
  rw [MakeChecks.laidMetH_plain _ _ _ (by kernel_rfl)] at h
  obtain ⟨ps, ⟨g0, t0, cs0, f0, p0, q0, hg0, ht0, hv0, hd0, ⟨g1, t1, cs1, f1, p1, q1, hg1, ht1, hv1, hd1, _, _⟩, _⟩, _, _⟩ := h
  obtain rfl := Option.some.inj (g_table.symm.trans hg0)
  obtain rfl := Option.some.inj (g_kinds.symm.trans hg1)
  obtain rfl := Option.some.inj (t_table.symm.trans ht0)
  obtain rfl := Option.some.inj (t_kinds.symm.trans ht1)
  exact ⟨kinds_of hv1 hd1, table_of hv0 hd0⟩
set_option maxRecDepth 100000 in
theorem lifted (os : Os) (started : os.Started) (H : Type) (enc : TypeId × Value → H) :
    ReturnsInHanded {} Tryd.checked os 3 .any (fun w args => (Rows.imageCanonsSpec.pre enc Tryd.prog Tryd.f3 Rows.imageCanonsRow.domain false w args ∧ laidMetH Tryd.prog laid2 w) ∧ sizedMet enc Tryd.prog Tryd.f3 (OpenSpec.ofChange Rows.imageCanonsSpec) false w args)
      (Rows.imageCanonsSpec.post enc Tryd.prog Tryd.f3 false true false false) := by
  refine returnsInHanded_of_change_and (C := Tryd.checked) (X := fun w _ => laidMetH Tryd.prog laid2 w) (fun _ _ _ hh h => h.of_heap hh) own started (by kernel_rfl) Tryd.func3
    (ChangeSpec.witness_shaped (enc := enc) (C := Tryd.checked) (os := os) (X := fun w _ => laidMetH Tryd.prog laid2 w) false (World.laidAll Tryd.prog os laid2) #[.agg #[.slice none 0 0, .slice none 0 0, .slice none 0 0, .int .i64 0, .int .i64 0, .int .i64 0, .int .i64 0, .slice none 0 0]] 8 (World.laidAll_os _ _ _)
      (World.shaped_of_ZipB (by kernel_rfl) (by kernel_rfl)) (by kernel_rfl) (by kernel_rfl) (by kernel_rfl)
      (by rw [MakeChecks.laidMetH_plain _ _ _ (by kernel_rfl)]; exact laidMet_laidAll _ (by kernel_rfl) (by kernel_rfl))) ?_
  intro W base args ds gs before hval0 hW hcnd hsz0 hL _
  have hsz : (DataW.weightsEach Tryd.prog (Tryd.f3.params.toList ++ Rows.imageCanonsSpec.plain.varTypes Tryd.prog) (ds ++ gs)).all (· ≤ reachBytes) = true := hsz0
  have hval : ∀ (j : Nat) t v, Tryd.f3.params[j]? = some t → args[j]? = some v → Value.okWide Tryd.prog W .any base t v := hval0
  have hW' := hW
  obtain ⟨p, q, hA0, hV, rfl, hfz, hnd⟩ := hW
  have hA : DataW.TrodAll enc Tryd.prog W 0 (fun _ => true) true Tryd.f3.params.toList args.toList ds p := hA0
  rw [Tryd.params3] at hA hval hsz
  obtain ⟨v0, vs0, d0, ds0, p0, q0, hargs, rfl, rfl, h0, r0⟩ := trodAll_cons hA
  obtain ⟨rfl, rfl, rfl⟩ := trodAll_nil r0
  obtain rfl : args = #[v0] := by cases args; simp_all
  obtain ⟨rfl, rfl⟩ := trodVars_none hV
  have k0 := h0
  have lt0 : ∀ x ∈ p0, x.block < W.heap.size := by obtain ⟨m, hm⟩ := k0; exact DataW.trod_lt m _ _ _ hm
  have hwe : ∀ x ∈ DataW.weightsEach Tryd.prog ([26] ++ Rows.imageCanonsSpec.plain.varTypes Tryd.prog) ([d0] ++ []), x ≤ 140737488351232 := fun x hx => by
    have := List.all_eq_true.1 hsz x hx
    exact of_decide_eq_true this
  obtain ⟨a, rfl, ha, za⟩ := pd_open (hval 0 26 v0 rfl rfl) h0 (fun x hx => hwe x (weights_each 0 rfl rfl x hx))
  obtain ⟨lk, lr⟩ := of_laid hL
  clear hA0 hval0 hsz0 hsz hwe
  refine (law_calls a W ha za lk lr).mono fun e W' ⟨he, bel⟩ => ?_
  subst he
  exact ⟨_, rfl, _, _, _, [], _, [], hW', trodAll_mk1 (shut_bool Tryd.underlying4 _), (trodAll_cons_mk (Below.trod laidOut (by kernel_rfl) (of_decide_eq_true (by kernel_rfl)) k0 bel lt0) trodAll_mk0), rfl, bel.frame _, fun h => by cases h⟩
theorem over : Rows.imageCanonsRow.holds Tryd.pinned (OpenSpec.ofChange Rows.imageCanonsSpec) :=
  OpenClaim.holds_of_wide 3 Tryd.f3 rfl rfl rfl rfl rfl rfl rfl ⟨rfl, rfl, rfl, rfl, rfl⟩ rfl rfl rfl rfl rfl (by kernel_rfl) Tryd.func3 (by kernel_rfl)
    (of_decide_eq_true (by kernel_rfl)) (by unfold Func.isWrapper; first | (rw [if_pos (by decide +kernel)]; kernel_rfl) | (rw [if_neg (by decide +kernel)]; exact ⟨rfl, rfl⟩))
    (fun os started H enc _ => lifted os started H enc)
theorem card : Rows.ImageCanonsCardSaid :=
  Claim7.holds_tied_plain_at .later [] [.data, .data] true (true, "00a9e17bcd9633f4066e63925d447897551492a50c86548a7d16340b03be140c") true
    over (fun _ h => by cases h) (by kernel_rfl) (fun _ h => by cases h) imageCanons_row_tie rfl ⟨rfl, rfl⟩ (by kernel_rfl) rfl
    (fun f fn hf hfn => by
      obtain rfl : f = 3 := Option.some.inj ((show Tryd.prog.funcNamed "payoff/payofflaw12.ImageCanons" = some 3 by kernel_rfl).symm.trans hf) |>.symm
      obtain rfl : fn = Tryd.f3 := (Option.some.inj (Tryd.func3.symm.trans hfn)).symm
      exact ⟨by kernel_rfl, fun j t ht => by
        rw [Tryd.params3] at ht
        have hm : t ∈ [26] := by simpa using Array.mem_of_getElem? ht
        have hall : ([26].all fun u => !Tryd.prog.wantsStandIn u) = true := by kernel_rfl
        exact (show Tryd.prog.wantsStandIn t = false by simpa using List.all_eq_true.1 hall t hm)⟩)
    (by kernel_rfl)
#print axioms card
end Go.Proofs.YtmhndfnmdkeiaaaDoor.RowW
namespace Go.Proofs.YtmhndfnmdkeiaaaDoor
/-- The card, under a short name, for the claim. -/
theorem imageCanons_holds : Rows.ImageCanonsCardSaid := RowW.card
end Go.Proofs.YtmhndfnmdkeiaaaDoor
