/- ImageEquals: of any two programs the law's function answers true, and leaves all that was there as it was. Condition: the lists are no longer than they may be. -/
import Derived.Test.YtmhndfnmdkeiaaaEqF
import Derived.Test.YtmhndfnmdkeiaaaIntact
namespace Go.Proofs.Ytmhndfnmdkeiaaa
open Go.RowKit Go.Proofs.YtmhndfnmdkeiaaaW.PrintWords Go.Proofs.YtmhndfnmdkeiaaaW.PrintLast Go.Proofs.YtmhndfnmdkeiaaaW.PrintMore
open PImageEquals KitW EqW RefEq OwnW EqF IntactW
namespace LawW
set_option linter.unusedVariables false
set_option linter.unusedSimpArgs false
attribute [local go_sem] max2_int min2_int max_two min_two max_three min_three max_four min_four
/-- A program that came in. -/
structure PD where
  A0 : Option Addr
  c0 : Nat
  A1 : Option Addr
  c1 : Nat
  A2 : Option Addr
  c2 : Nat
  A3 : Option Addr
  c3 : Nat
  l0 : List ByteArray
  l1 : List ByteArray
  l2 : List Int
  h : Int
  c : Int
  s : Int
  st : Int
  ds : List (Int × Option (List S33))
/-- Its copy's rows. -/
structure QD where
  B0 : Option Addr
  e0 : Nat
  B1 : Option Addr
  e1 : Nat
  B2 : Option Addr
  e2 : Nat
  B7 : Option Addr
  e7 : Nat
structure PD.Ok (p : PD) (w : World) : Prop where
  z0 : p.A0 = none → p.l0.length = 0 ∧ p.c0 = 0
  z1 : p.A1 = none → p.l1.length = 0 ∧ p.c1 = 0
  z2 : p.A2 = none → p.l2.length = 0 ∧ p.c2 = 0
  z3 : p.A3 = none → p.ds.length = 0 ∧ p.c3 = 0
  k0 : p.l0.length ≤ p.c0
  k1 : p.l1.length ≤ p.c1
  k2 : p.l2.length ≤ p.c2
  k3 : p.ds.length ≤ p.c3
  b0 : p.l0.length * 16 ≤ 140737488351232
  b1 : p.l1.length * 16 ≤ 140737488351232
  b2 : p.l2.length * 8 ≤ 140737488351232
  b3 : p.ds.length * 32 ≤ 140737488351232
  r0 : Kd.C Kd.string w p.A0 p.l0.length p.l0
  r1 : Kd.C Kd.string w p.A1 p.l1.length p.l1
  r2 : Kd.C (Kd.int .i64) w p.A2 p.l2.length p.l2
  r3 : ReadsRow (segR w) 2 w p.A3 p.ds.length p.ds
  bd : ∀ x ∈ p.ds, ∀ l, x.2 = some l → l.length * 24 ≤ 140737488351232
theorem segR_below {w w1 : World} {x : Int × Option (List S33)} {cs : List Value} (hb : Below w.heap.size w w1) (h : segR w x cs) : segR w1 x cs := by
  obtain ⟨v, rfl, hv⟩ := h
  exact ⟨v, rfl, nrd.below hv hb⟩
theorem PD.Ok.below {p : PD} {w w1 : World} (h : p.Ok w) (hb : Below w.heap.size w w1) : p.Ok w1 :=
  ⟨h.z0, h.z1, h.z2, h.z3, h.k0, h.k1, h.k2, h.k3, h.b0, h.b1, h.b2, h.b3, Kd.C_below h.r0 hb, Kd.C_below h.r1 hb, Kd.C_below h.r2 hb, ReadsRow.imp_ h.r3 hb (fun _ _ hp => segR_below hb hp), h.bd⟩
/-- The copy reads as it shall. -/
structure QD.Ok (q : QD) (p : PD) (w : World) : Prop where
  k0 : (tail 9 Kd.string behind).K w (nl p.A0 p.l0) [.slice q.B0 p.l0.length q.e0]
  k1 : (tail 9 Kd.string behind).K w (nl p.A1 p.l1) [.slice q.B1 p.l1.length q.e1]
  k2 : (tail 3 (Kd.int .i64) (-4711)).K w (nl p.A2 p.l2) [.slice q.B2 p.l2.length q.e2]
  k3 : kseg.C w q.B7 p.ds.length p.ds
  k4 : p.ds.length ≤ q.e7
theorem QD.Ok.below {q : QD} {p : PD} {w w1 : World} (h : q.Ok p w) (hb : Below w.heap.size w w1) : q.Ok p w1 :=
  ⟨Kd.K_below _ hb h.k0, Kd.K_below _ hb h.k1, Kd.K_below _ hb h.k2, Kd.C_below h.k3 hb, h.k4⟩
theorem PD.Ok.ds_le {p : PD} {w : World} (h : p.Ok w) (i : Nat) : ((p.ds.map conv).getD i z31).f1.length ≤ 9223372036854775807 := by
  rw [List.getD_eq_getElem?_getD, List.getElem?_map]
  cases hx : p.ds[i]? with
  | none => simp [z31]
  | some x =>
    have hxm : x ∈ p.ds := List.mem_of_getElem? hx
    have := h.bd x hxm
    obtain ⟨xd, xc⟩ := x
    cases xc with
    | none => simp [conv]
    | some l => have := this l rfl; simp [conv]; omega
/-- A program's value, readable as lists. -/
structure Rp (w : World) (v : Value) (n0 c0 : List ByteArray) (p0 : List Int) (h0 e0 s0 t0 : Int) (d0 : List S31) : Prop where
  ex : ∃ A0 a0 B0 b0 C0 g0 D0 k0, v = .agg #[.slice A0 n0.length a0, .slice B0 c0.length b0, .slice C0 p0.length g0, .int .i64 h0, .int .i64 e0, .int .i64 s0, .int .i64 t0, .slice D0 d0.length k0] ∧
    Kd.C Kd.string w A0 n0.length n0 ∧ Kd.C Kd.string w B0 c0.length c0 ∧ Kd.C (Kd.int .i64) w C0 p0.length p0 ∧ k31.C w D0 d0.length d0 ∧ n0.length ≤ a0 ∧ c0.length ≤ b0 ∧ p0.length ≤ g0 ∧ d0.length ≤ k0
theorem PD.Ok.rp {p : PD} {w : World} (h : p.Ok w) : Rp w (.agg #[.slice p.A0 p.l0.length p.c0, .slice p.A1 p.l1.length p.c1, .slice p.A2 p.l2.length p.c2, .int .i64 p.h, .int .i64 p.c, .int .i64 p.s, .int .i64 p.st, .slice p.A3 p.ds.length p.c3]) p.l0 p.l1 p.l2 p.h p.c p.s p.st (p.ds.map conv) := by
  have hl : (p.ds.map conv).length = p.ds.length := List.length_map _
  refine ⟨p.A0, p.c0, p.A1, p.c1, p.A2, p.c2, p.A3, p.c3, by rw [hl], h.r0, h.r1, h.r2, ?_, h.k0, h.k1, h.k2, by rw [hl]; exact h.k3⟩
  rw [hl]
  exact reads_map conv seg_k h.r3
theorem QD.Ok.rp {q : QD} {p : PD} {w : World} (h : q.Ok p w) (hp : p.Ok w) : Rp w (.agg #[.slice q.B0 p.l0.length q.e0, .slice q.B1 p.l1.length q.e1, .slice q.B2 p.l2.length q.e2, .int .i64 p.h, .int .i64 p.c, .int .i64 p.s, .int .i64 p.st, .slice q.B7 p.ds.length q.e7]) p.l0 p.l1 p.l2 p.h p.c p.s p.st (p.ds.map conv) := by
  have hl : (p.ds.map conv).length = p.ds.length := List.length_map _
  obtain ⟨x1, x2, e1, x3, x4⟩ := tail_nil h.k0
  obtain ⟨y1, y2, e2, y3, y4⟩ := tail_nil h.k1
  obtain ⟨z1, z2, e3, z3, z4⟩ := tail_nil h.k2
  injection e1 with e11 e12 e13
  injection e2 with e21 e22 e23
  injection e3 with e31 e32 e33
  rw [nl_getD (fun hh => (hp.z0 hh).1)] at x3 x4
  rw [nl_getD (fun hh => (hp.z1 hh).1)] at y3 y4
  rw [nl_getD (fun hh => (hp.z2 hh).1)] at z3 z4
  subst e11 e13 e21 e23 e31 e33
  refine ⟨q.B0, q.e0, q.B1, q.e1, q.B2, q.e2, q.B7, q.e7, by rw [hl], x4, y4, z4, ?_, x3, y3, z3, by rw [hl]; exact h.k4⟩
  rw [hl]
  exact reads_map conv kseg_k h.k3
/-- own, in short. -/
theorem own_calls (p : PD) (w : World) (h : p.Ok w) : Calls Try.prog 4 #[.agg #[.slice p.A0 p.l0.length p.c0, .slice p.A1 p.l1.length p.c1, .slice p.A2 p.l2.length p.c2, .int .i64 p.h, .int .i64 p.c, .int .i64 p.s, .int .i64 p.st, .slice p.A3 p.ds.length p.c3]] w fun e w' => ∃ q : QD, e = .returned (.agg #[.slice q.B0 p.l0.length q.e0, .slice q.B1 p.l1.length q.e1, .slice q.B2 p.l2.length q.e2, .int .i64 p.h, .int .i64 p.c, .int .i64 p.s, .int .i64 p.st, .slice q.B7 p.ds.length q.e7]) ∧ q.Ok p w' ∧ Below w.heap.size w w' := by
  refine (own_walk p.A0 p.l0.length p.c0 p.A1 p.l1.length p.c1 p.A2 p.l2.length p.c2 p.h p.c p.s p.st p.A3 p.ds.length p.c3 w h.z0 h.z1 h.z2 h.z3 h.b0 h.b1 h.b2 h.b3 p.l0 rfl h.r0 p.l1 rfl h.r1 p.l2 rfl h.r2 p.ds h.r3 h.bd).mono ?_
  rintro e w' ⟨v0, v1, v2, v7, rfl, hs⟩
  have g0 := hs.val 0 rfl
  have g1 := hs.val 1 rfl
  have g2 := hs.val 2 rfl
  obtain ⟨B7, e7, rfl, h7, g7⟩ := hs.row 3 rfl
  obtain ⟨B0, e0, rfl, _, _⟩ := tail_nil g0
  obtain ⟨B1, e1, rfl, _, _⟩ := tail_nil g1
  obtain ⟨B2, e2, rfl, _, _⟩ := tail_nil g2
  rw [nl_getD (fun hh => (h.z0 hh).1)] at g0 ⊢
  rw [nl_getD (fun hh => (h.z1 hh).1)] at g1 ⊢
  rw [nl_getD (fun hh => (h.z2 hh).1)] at g2 ⊢
  exact ⟨⟨B0, e0, B1, e1, B2, e2, B7, e7⟩, rfl, ⟨g0, g1, g2, g7, h7⟩, hs.B⟩
theorem eq_calls {w : World} {v v' : Value} {n0 c0 : List ByteArray} {p0 : List Int} {h0 e0 s0 t0 : Int} {d0 : List S31} {n1 c1 : List ByteArray} {p1 : List Int} {h1 e1 s1 t1 : Int} {d1 : List S31}
    (r : Rp w v n0 c0 p0 h0 e0 s0 t0 d0) (r' : Rp w v' n1 c1 p1 h1 e1 s1 t1 d1) : Calls Try.prog 5 #[v, v'] w fun e w' => e = .returned (.bool (same n0 c0 p0 h0 e0 s0 t0 d0 n1 c1 p1 h1 e1 s1 t1 d1)) ∧ Below w.heap.size w w' := by
  obtain ⟨_, _, _, _, _, _, _, _, rfl, a1, a2, a3, a4, _⟩ := r.ex
  obtain ⟨_, _, _, _, _, _, _, _, rfl, b1, b2, b3, b4, _⟩ := r'.ex
  exact equal_calls _ n0 _ _ c0 _ _ p0 _ h0 e0 s0 t0 _ d0 _ _ n1 _ _ c1 _ _ p1 _ h1 e1 s1 t1 _ d1 _ w a1 a2 a3 a4 b1 b2 b3 b4
theorem ref_calls {w : World} {v v' : Value} {n0 c0 : List ByteArray} {p0 : List Int} {h0 e0 s0 t0 : Int} {d0 : List S31} {n1 c1 : List ByteArray} {p1 : List Int} {h1 e1 s1 t1 : Int} {d1 : List S31}
    (r : Rp w v n0 c0 p0 h0 e0 s0 t0 d0) (r' : Rp w v' n1 c1 p1 h1 e1 s1 t1 d1) (hm : ∀ i : Nat, (d0.getD i z31).f1.length ≤ 9223372036854775807) : Calls Try.prog 6 #[v, v'] w fun e w' => e = .returned (.bool (same n0 c0 p0 h0 e0 s0 t0 d0 n1 c1 p1 h1 e1 s1 t1 d1)) ∧ Below w.heap.size w w' := by
  obtain ⟨_, _, _, _, _, _, _, _, rfl, a1, a2, a3, a4, q1, q2, q3, q4⟩ := r.ex
  obtain ⟨_, _, _, _, _, _, _, _, rfl, b1, b2, b3, b4, q5, q6, q7, q8⟩ := r'.ex
  obtain ⟨k, hk⟩ := (equal_ev n0 c0 p0 h0 e0 s0 t0 d0 n1 c1 p1 h1 e1 s1 t1 d1 a1.2.1 a2.2.1 a3.2.1 a4.2.1 hm).rounds
  exact payoffref12_Equal.calls k _ _ n0 _ _ c0 _ _ p0 h0 e0 s0 t0 _ _ d0 _ _ n1 _ _ c1 _ _ p1 h1 e1 s1 t1 _ _ d1 _ w a1 q1 a2 q2 a3 q3 a4 q4 b1 q5 b2 q6 b3 q7 b4 q8 hk
theorem intact_calls (p : PD) (q : QD) (w : World) (h : p.Ok w) (hq : q.Ok p w) : Calls Try.prog 7 #[.agg #[.slice q.B0 p.l0.length q.e0, .slice q.B1 p.l1.length q.e1, .slice q.B2 p.l2.length q.e2, .int .i64 p.h, .int .i64 p.c, .int .i64 p.s, .int .i64 p.st, .slice q.B7 p.ds.length q.e7], .agg #[.slice p.A0 p.l0.length p.c0, .slice p.A1 p.l1.length p.c1, .slice p.A2 p.l2.length p.c2, .int .i64 p.h, .int .i64 p.c, .int .i64 p.s, .int .i64 p.st, .slice p.A3 p.ds.length p.c3]] w fun e w' => e = .returned (.bool true) ∧ Below w.heap.size w w' :=
  intact_walk p.A0 p.c0 p.A1 p.c1 p.A2 p.c2 p.h p.c p.s p.st p.A3 p.c3 q.B0 p.l0.length q.e0 q.B1 p.l1.length q.e1 q.B2 p.l2.length q.e2 q.B7 p.ds.length q.e7 w p.l0 p.l1 p.l2 p.ds (fun hh => (h.z0 hh).1) (fun hh => (h.z1 hh).1) (fun hh => (h.z2 hh).1)
    h.r0 h.r1 h.r2 h.r3 h.k0 h.k1 h.k2 h.k3 hq.k0 hq.k1 hq.k2 hq.k3 hq.k4 (fun x hx l hl => by have := h.bd x hx l hl; omega)
set_option maxRecDepth 100000 in
set_option maxHeartbeats 8000000 in
theorem law_calls (a b : PD) (w : World) (ha : a.Ok w) (hb : b.Ok w) : Calls Try.prog 3 #[.agg #[.slice a.A0 a.l0.length a.c0, .slice a.A1 a.l1.length a.c1, .slice a.A2 a.l2.length a.c2, .int .i64 a.h, .int .i64 a.c, .int .i64 a.s, .int .i64 a.st, .slice a.A3 a.ds.length a.c3], .agg #[.slice b.A0 b.l0.length b.c0, .slice b.A1 b.l1.length b.c1, .slice b.A2 b.l2.length b.c2, .int .i64 b.h, .int .i64 b.c, .int .i64 b.s, .int .i64 b.st, .slice b.A3 b.ds.length b.c3]] w fun e w' => e = .returned (.bool true) ∧ Below w.heap.size w w' := by
  have HA := Aside0.mk ha
  have HB := Aside0.mk hb
  clear ha hb
  have HS := Aside0.mk (((St.start w).alloc #[.slice a.A0 a.l0.length a.c0, .slice a.A1 a.l1.length a.c1, .slice a.A2 a.l2.length a.c2, .int .i64 a.h, .int .i64 a.c, .int .i64 a.s, .int .i64 a.st, .slice a.A3 a.ds.length a.c3] 26).alloc #[.slice b.A0 b.l0.length b.c0, .slice b.A1 b.l1.length b.c1, .slice b.A2 b.l2.length b.c2, .int .i64 b.h, .int .i64 b.c, .int .i64 b.s, .int .i64 b.st, .slice b.A3 b.ds.length b.c3] 26)
  go_enter Try.func3, Try.ntmps3
  go_upto_region 1 with (fail)
  obtain ⟨w1, hw1⟩ : ∃ w1, w1 = (w.alloc (.cells #[.slice a.A0 a.l0.length a.c0, .slice a.A1 a.l1.length a.c1, .slice a.A2 a.l2.length a.c2, .int .i64 a.h, .int .i64 a.c, .int .i64 a.s, .int .i64 a.st, .slice a.A3 a.ds.length a.c3] 26 (0, 0))).alloc (.cells #[.slice b.A0 b.l0.length b.c0, .slice b.A1 b.l1.length b.c1, .slice b.A2 b.l2.length b.c2, .int .i64 b.h, .int .i64 b.c, .int .i64 b.s, .int .i64 b.st, .slice b.A3 b.ds.length b.c3] 26 (0, 0)) := ⟨_, rfl⟩
  obtain ⟨g0, hg0⟩ : ∃ g, g = w.heap.size := ⟨_, rfl⟩
  obtain ⟨g1, hg1⟩ : ∃ g, g = w.heap.size + 1 := ⟨_, rfl⟩
  have HS1 : Aside0 (St w w1 [Box g0 #[.slice a.A0 a.l0.length a.c0, .slice a.A1 a.l1.length a.c1, .slice a.A2 a.l2.length a.c2, .int .i64 a.h, .int .i64 a.c, .int .i64 a.s, .int .i64 a.st, .slice a.A3 a.ds.length a.c3] 26, Box g1 #[.slice b.A0 b.l0.length b.c0, .slice b.A1 b.l1.length b.c1, .slice b.A2 b.l2.length b.c2, .int .i64 b.h, .int .i64 b.c, .int .i64 b.s, .int .i64 b.st, .slice b.A3 b.ds.length b.c3] 26]) := by rw [hw1, hg0, hg1]; exact ⟨by simpa using HS.out⟩
  rw [← hw1, ← hg1, ← hg0]
  clear hw1 hg0 hg1 HS
  have q00 : w1.cell? ⟨g0, 0, none⟩ = some (.slice a.A0 a.l0.length a.c0) := HS1.out.cell 0 rfl 0
  have q01 : w1.cell? ⟨g0, 1, none⟩ = some (.slice a.A1 a.l1.length a.c1) := HS1.out.cell 0 rfl 1
  have q02 : w1.cell? ⟨g0, 2, none⟩ = some (.slice a.A2 a.l2.length a.c2) := HS1.out.cell 0 rfl 2
  have q03 : w1.cell? ⟨g0, 3, none⟩ = some (.int .i64 a.h) := HS1.out.cell 0 rfl 3
  have q04 : w1.cell? ⟨g0, 4, none⟩ = some (.int .i64 a.c) := HS1.out.cell 0 rfl 4
  have q05 : w1.cell? ⟨g0, 5, none⟩ = some (.int .i64 a.s) := HS1.out.cell 0 rfl 5
  have q06 : w1.cell? ⟨g0, 6, none⟩ = some (.int .i64 a.st) := HS1.out.cell 0 rfl 6
  have q07 : w1.cell? ⟨g0, 7, none⟩ = some (.slice a.A3 a.ds.length a.c3) := HS1.out.cell 0 rfl 7
  have q10 : w1.cell? ⟨g1, 0, none⟩ = some (.slice b.A0 b.l0.length b.c0) := HS1.out.cell 1 rfl 0
  have q11 : w1.cell? ⟨g1, 1, none⟩ = some (.slice b.A1 b.l1.length b.c1) := HS1.out.cell 1 rfl 1
  have q12 : w1.cell? ⟨g1, 2, none⟩ = some (.slice b.A2 b.l2.length b.c2) := HS1.out.cell 1 rfl 2
  have q13 : w1.cell? ⟨g1, 3, none⟩ = some (.int .i64 b.h) := HS1.out.cell 1 rfl 3
  have q14 : w1.cell? ⟨g1, 4, none⟩ = some (.int .i64 b.c) := HS1.out.cell 1 rfl 4
  have q15 : w1.cell? ⟨g1, 5, none⟩ = some (.int .i64 b.s) := HS1.out.cell 1 rfl 5
  have q16 : w1.cell? ⟨g1, 6, none⟩ = some (.int .i64 b.st) := HS1.out.cell 1 rfl 6
  have q17 : w1.cell? ⟨g1, 7, none⟩ = some (.slice b.A3 b.ds.length b.c3) := HS1.out.cell 1 rfl 7
  go_wp2_with (go_at_call 4; refine stop ?_)
  refine Stop.mk ?_
  refine (own_calls a _ (HA.out.below HS1.out.B)).mono ?_
  rintro e w2 ⟨x, rfl, hx, hb2⟩
  have HX := Aside0.mk hx
  have HS2 := Aside0.mk (HS1.out.below hb2)
  clear hx hb2 HS1
  clear q00 q01 q02 q03 q04 q05 q06 q07 q10 q11 q12 q13 q14 q15 q16 q17
  go_upto_region 2 with (fail)
  obtain ⟨w3, hw3⟩ : ∃ w3, w3 = w2.alloc (.cells #[.slice x.B0 a.l0.length x.e0, .slice x.B1 a.l1.length x.e1, .slice x.B2 a.l2.length x.e2, .int .i64 a.h, .int .i64 a.c, .int .i64 a.s, .int .i64 a.st, .slice x.B7 a.ds.length x.e7] 26 (0, 0)) := ⟨_, rfl⟩
  have HS3' := HS2.out.alloc #[.slice x.B0 a.l0.length x.e0, .slice x.B1 a.l1.length x.e1, .slice x.B2 a.l2.length x.e2, .int .i64 a.h, .int .i64 a.c, .int .i64 a.s, .int .i64 a.st, .slice x.B7 a.ds.length x.e7] 26
  have HX3 := Aside0.mk (HX.out.below (below_alloc (Below.refl _ w2) (.cells #[.slice x.B0 a.l0.length x.e0, .slice x.B1 a.l1.length x.e1, .slice x.B2 a.l2.length x.e2, .int .i64 a.h, .int .i64 a.c, .int .i64 a.s, .int .i64 a.st, .slice x.B7 a.ds.length x.e7] 26 (0, 0))))
  obtain ⟨g2, hg2⟩ : ∃ g, g = w2.heap.size := ⟨_, rfl⟩
  rw [← hw3, ← hg2] at HS3' ⊢
  rw [← hw3] at HX3
  have HS3 : Aside0 (St w w3 [Box g0 #[.slice a.A0 a.l0.length a.c0, .slice a.A1 a.l1.length a.c1, .slice a.A2 a.l2.length a.c2, .int .i64 a.h, .int .i64 a.c, .int .i64 a.s, .int .i64 a.st, .slice a.A3 a.ds.length a.c3] 26, Box g1 #[.slice b.A0 b.l0.length b.c0, .slice b.A1 b.l1.length b.c1, .slice b.A2 b.l2.length b.c2, .int .i64 b.h, .int .i64 b.c, .int .i64 b.s, .int .i64 b.st, .slice b.A3 b.ds.length b.c3] 26, Box g2 #[.slice x.B0 a.l0.length x.e0, .slice x.B1 a.l1.length x.e1, .slice x.B2 a.l2.length x.e2, .int .i64 a.h, .int .i64 a.c, .int .i64 a.s, .int .i64 a.st, .slice x.B7 a.ds.length x.e7] 26]) := ⟨HS3'⟩
  clear HS3' hw3 hg2 HS2 HX
  have q00 : w3.cell? ⟨g0, 0, none⟩ = some (.slice a.A0 a.l0.length a.c0) := HS3.out.cell 0 rfl 0
  have q01 : w3.cell? ⟨g0, 1, none⟩ = some (.slice a.A1 a.l1.length a.c1) := HS3.out.cell 0 rfl 1
  have q02 : w3.cell? ⟨g0, 2, none⟩ = some (.slice a.A2 a.l2.length a.c2) := HS3.out.cell 0 rfl 2
  have q03 : w3.cell? ⟨g0, 3, none⟩ = some (.int .i64 a.h) := HS3.out.cell 0 rfl 3
  have q04 : w3.cell? ⟨g0, 4, none⟩ = some (.int .i64 a.c) := HS3.out.cell 0 rfl 4
  have q05 : w3.cell? ⟨g0, 5, none⟩ = some (.int .i64 a.s) := HS3.out.cell 0 rfl 5
  have q06 : w3.cell? ⟨g0, 6, none⟩ = some (.int .i64 a.st) := HS3.out.cell 0 rfl 6
  have q07 : w3.cell? ⟨g0, 7, none⟩ = some (.slice a.A3 a.ds.length a.c3) := HS3.out.cell 0 rfl 7
  have q10 : w3.cell? ⟨g1, 0, none⟩ = some (.slice b.A0 b.l0.length b.c0) := HS3.out.cell 1 rfl 0
  have q11 : w3.cell? ⟨g1, 1, none⟩ = some (.slice b.A1 b.l1.length b.c1) := HS3.out.cell 1 rfl 1
  have q12 : w3.cell? ⟨g1, 2, none⟩ = some (.slice b.A2 b.l2.length b.c2) := HS3.out.cell 1 rfl 2
  have q13 : w3.cell? ⟨g1, 3, none⟩ = some (.int .i64 b.h) := HS3.out.cell 1 rfl 3
  have q14 : w3.cell? ⟨g1, 4, none⟩ = some (.int .i64 b.c) := HS3.out.cell 1 rfl 4
  have q15 : w3.cell? ⟨g1, 5, none⟩ = some (.int .i64 b.s) := HS3.out.cell 1 rfl 5
  have q16 : w3.cell? ⟨g1, 6, none⟩ = some (.int .i64 b.st) := HS3.out.cell 1 rfl 6
  have q17 : w3.cell? ⟨g1, 7, none⟩ = some (.slice b.A3 b.ds.length b.c3) := HS3.out.cell 1 rfl 7
  have q20 : w3.cell? ⟨g2, 0, none⟩ = some (.slice x.B0 a.l0.length x.e0) := HS3.out.cell 2 rfl 0
  have q21 : w3.cell? ⟨g2, 1, none⟩ = some (.slice x.B1 a.l1.length x.e1) := HS3.out.cell 2 rfl 1
  have q22 : w3.cell? ⟨g2, 2, none⟩ = some (.slice x.B2 a.l2.length x.e2) := HS3.out.cell 2 rfl 2
  have q23 : w3.cell? ⟨g2, 3, none⟩ = some (.int .i64 a.h) := HS3.out.cell 2 rfl 3
  have q24 : w3.cell? ⟨g2, 4, none⟩ = some (.int .i64 a.c) := HS3.out.cell 2 rfl 4
  have q25 : w3.cell? ⟨g2, 5, none⟩ = some (.int .i64 a.s) := HS3.out.cell 2 rfl 5
  have q26 : w3.cell? ⟨g2, 6, none⟩ = some (.int .i64 a.st) := HS3.out.cell 2 rfl 6
  have q27 : w3.cell? ⟨g2, 7, none⟩ = some (.slice x.B7 a.ds.length x.e7) := HS3.out.cell 2 rfl 7
  go_wp2_with (go_at_call 4; refine stop ?_)
  refine Stop.mk ?_
  refine (own_calls b _ (HB.out.below HS3.out.B)).mono ?_
  rintro e w4 ⟨y, rfl, hy, hb4⟩
  have HY := Aside0.mk hy
  have HX4 := Aside0.mk (HX3.out.below hb4)
  have HS4 := Aside0.mk (HS3.out.below hb4)
  clear hy hb4 HS3 HX3
  clear q00 q01 q02 q03 q04 q05 q06 q07 q10 q11 q12 q13 q14 q15 q16 q17 q20 q21 q22 q23 q24 q25 q26 q27
  go_upto_region 3 with (fail)
  obtain ⟨w5, hw5⟩ : ∃ w5, w5 = w4.alloc (.cells #[.slice y.B0 b.l0.length y.e0, .slice y.B1 b.l1.length y.e1, .slice y.B2 b.l2.length y.e2, .int .i64 b.h, .int .i64 b.c, .int .i64 b.s, .int .i64 b.st, .slice y.B7 b.ds.length y.e7] 26 (0, 0)) := ⟨_, rfl⟩
  have HS5' := HS4.out.alloc #[.slice y.B0 b.l0.length y.e0, .slice y.B1 b.l1.length y.e1, .slice y.B2 b.l2.length y.e2, .int .i64 b.h, .int .i64 b.c, .int .i64 b.s, .int .i64 b.st, .slice y.B7 b.ds.length y.e7] 26
  have HX5 := Aside0.mk (HX4.out.below (below_alloc (Below.refl _ w4) (.cells #[.slice y.B0 b.l0.length y.e0, .slice y.B1 b.l1.length y.e1, .slice y.B2 b.l2.length y.e2, .int .i64 b.h, .int .i64 b.c, .int .i64 b.s, .int .i64 b.st, .slice y.B7 b.ds.length y.e7] 26 (0, 0))))
  have HY5 := Aside0.mk (HY.out.below (below_alloc (Below.refl _ w4) (.cells #[.slice y.B0 b.l0.length y.e0, .slice y.B1 b.l1.length y.e1, .slice y.B2 b.l2.length y.e2, .int .i64 b.h, .int .i64 b.c, .int .i64 b.s, .int .i64 b.st, .slice y.B7 b.ds.length y.e7] 26 (0, 0))))
  obtain ⟨g3, hg3⟩ : ∃ g, g = w4.heap.size := ⟨_, rfl⟩
  rw [← hw5, ← hg3] at HS5' ⊢
  rw [← hw5] at HX5 HY5
  have HS5 : Aside0 (St w w5 [Box g0 #[.slice a.A0 a.l0.length a.c0, .slice a.A1 a.l1.length a.c1, .slice a.A2 a.l2.length a.c2, .int .i64 a.h, .int .i64 a.c, .int .i64 a.s, .int .i64 a.st, .slice a.A3 a.ds.length a.c3] 26, Box g1 #[.slice b.A0 b.l0.length b.c0, .slice b.A1 b.l1.length b.c1, .slice b.A2 b.l2.length b.c2, .int .i64 b.h, .int .i64 b.c, .int .i64 b.s, .int .i64 b.st, .slice b.A3 b.ds.length b.c3] 26, Box g2 #[.slice x.B0 a.l0.length x.e0, .slice x.B1 a.l1.length x.e1, .slice x.B2 a.l2.length x.e2, .int .i64 a.h, .int .i64 a.c, .int .i64 a.s, .int .i64 a.st, .slice x.B7 a.ds.length x.e7] 26, Box g3 #[.slice y.B0 b.l0.length y.e0, .slice y.B1 b.l1.length y.e1, .slice y.B2 b.l2.length y.e2, .int .i64 b.h, .int .i64 b.c, .int .i64 b.s, .int .i64 b.st, .slice y.B7 b.ds.length y.e7] 26]) := ⟨HS5'⟩
  clear HS5' hw5 hg3 HS4 HX4 HY
  obtain ⟨r, hr⟩ : ∃ r, r = same a.l0 a.l1 a.l2 a.h a.c a.s a.st (a.ds.map conv) b.l0 b.l1 b.l2 b.h b.c b.s b.st (b.ds.map conv) := ⟨_, rfl⟩
  have HR := Aside0.mk hr
  clear hr
  have D0 := Aside0.mk (below_drew (Below.refl w5.heap.size w5))
  have HD0 := Aside0.mk HS5.out.drew
  refine start_ (n := 30) (S := fun w' => w'.cell? ⟨g0, 0, none⟩ = some (.slice a.A0 a.l0.length a.c0) ∧ w'.cell? ⟨g0, 1, none⟩ = some (.slice a.A1 a.l1.length a.c1) ∧ w'.cell? ⟨g0, 2, none⟩ = some (.slice a.A2 a.l2.length a.c2) ∧ w'.cell? ⟨g0, 3, none⟩ = some (.int .i64 a.h) ∧ w'.cell? ⟨g0, 4, none⟩ = some (.int .i64 a.c) ∧ w'.cell? ⟨g0, 5, none⟩ = some (.int .i64 a.s) ∧ w'.cell? ⟨g0, 6, none⟩ = some (.int .i64 a.st) ∧ w'.cell? ⟨g0, 7, none⟩ = some (.slice a.A3 a.ds.length a.c3) ∧ w'.cell? ⟨g1, 0, none⟩ = some (.slice b.A0 b.l0.length b.c0) ∧ w'.cell? ⟨g1, 1, none⟩ = some (.slice b.A1 b.l1.length b.c1) ∧ w'.cell? ⟨g1, 2, none⟩ = some (.slice b.A2 b.l2.length b.c2) ∧ w'.cell? ⟨g1, 3, none⟩ = some (.int .i64 b.h) ∧ w'.cell? ⟨g1, 4, none⟩ = some (.int .i64 b.c) ∧ w'.cell? ⟨g1, 5, none⟩ = some (.int .i64 b.s) ∧ w'.cell? ⟨g1, 6, none⟩ = some (.int .i64 b.st) ∧ w'.cell? ⟨g1, 7, none⟩ = some (.slice b.A3 b.ds.length b.c3) ∧ w'.cell? ⟨g2, 0, none⟩ = some (.slice x.B0 a.l0.length x.e0) ∧ w'.cell? ⟨g2, 1, none⟩ = some (.slice x.B1 a.l1.length x.e1) ∧ w'.cell? ⟨g2, 2, none⟩ = some (.slice x.B2 a.l2.length x.e2) ∧ w'.cell? ⟨g2, 3, none⟩ = some (.int .i64 a.h) ∧ w'.cell? ⟨g2, 4, none⟩ = some (.int .i64 a.c) ∧ w'.cell? ⟨g2, 5, none⟩ = some (.int .i64 a.s) ∧ w'.cell? ⟨g2, 6, none⟩ = some (.int .i64 a.st) ∧ w'.cell? ⟨g2, 7, none⟩ = some (.slice x.B7 a.ds.length x.e7) ∧ w'.cell? ⟨g3, 0, none⟩ = some (.slice y.B0 b.l0.length y.e0) ∧ w'.cell? ⟨g3, 1, none⟩ = some (.slice y.B1 b.l1.length y.e1) ∧ w'.cell? ⟨g3, 2, none⟩ = some (.slice y.B2 b.l2.length y.e2) ∧ w'.cell? ⟨g3, 3, none⟩ = some (.int .i64 b.h) ∧ w'.cell? ⟨g3, 4, none⟩ = some (.int .i64 b.c) ∧ w'.cell? ⟨g3, 5, none⟩ = some (.int .i64 b.s) ∧ w'.cell? ⟨g3, 6, none⟩ = some (.int .i64 b.st) ∧ w'.cell? ⟨g3, 7, none⟩ = some (.slice y.B7 b.ds.length y.e7)) (ds := []) #[false, false, false, false, false, false, false, false, false, false, false, false, false, false, false, false, false, false, false, false, false, false, false, false, false, false, false, false, false, false] (by kernel_rfl) rfl rfl ⟨(HS5.out.drew.cell 0 rfl 0), (HS5.out.drew.cell 0 rfl 1), (HS5.out.drew.cell 0 rfl 2), (HS5.out.drew.cell 0 rfl 3), (HS5.out.drew.cell 0 rfl 4), (HS5.out.drew.cell 0 rfl 5), (HS5.out.drew.cell 0 rfl 6), (HS5.out.drew.cell 0 rfl 7), (HS5.out.drew.cell 1 rfl 0), (HS5.out.drew.cell 1 rfl 1), (HS5.out.drew.cell 1 rfl 2), (HS5.out.drew.cell 1 rfl 3), (HS5.out.drew.cell 1 rfl 4), (HS5.out.drew.cell 1 rfl 5), (HS5.out.drew.cell 1 rfl 6), (HS5.out.drew.cell 1 rfl 7), (HS5.out.drew.cell 2 rfl 0), (HS5.out.drew.cell 2 rfl 1), (HS5.out.drew.cell 2 rfl 2), (HS5.out.drew.cell 2 rfl 3), (HS5.out.drew.cell 2 rfl 4), (HS5.out.drew.cell 2 rfl 5), (HS5.out.drew.cell 2 rfl 6), (HS5.out.drew.cell 2 rfl 7), (HS5.out.drew.cell 3 rfl 0), (HS5.out.drew.cell 3 rfl 1), (HS5.out.drew.cell 3 rfl 2), (HS5.out.drew.cell 3 rfl 3), (HS5.out.drew.cell 3 rfl 4), (HS5.out.drew.cell 3 rfl 5), (HS5.out.drew.cell 3 rfl 6), (HS5.out.drew.cell 3 rfl 7)⟩ (fun hHeld => ?_)
  refine take_ (i := 0) (N := some 11) (v := ?_) (a' := ?_) #[true, false, false, false, false, false, false, false, false, false, false, false, false, false, false, false, false, false, false, false, false, false, false, false, false, false, false, false, false, false] rfl rfl (by kernel_rfl) (fun _ _ _ h => h) (Or.inl ⟨by rfl, ?_⟩) hHeld ?_ ?_
  rotate_left
  · rintro w' ⟨s0, s1, s2, s3, s4, s5, s6, s7, s8, s9, s10, s11, s12, s13, s14, s15, s16, s17, s18, s19, s20, s21, s22, s23, s24, s25, s26, s27, s28, s29, s30, s31⟩
    go_simp
    with_reducible rfl
  rotate_left
  · simp only [Act.put, List.setIfInBounds_toArray, List.set_cons_zero, List.set_cons_succ, i64_w, i32_w]
    rfl
  refine take_ (i := 1) (N := some 12) (v := ?_) (a' := ?_) #[true, true, false, false, false, false, false, false, false, false, false, false, false, false, false, false, false, false, false, false, false, false, false, false, false, false, false, false, false, false] rfl rfl (by kernel_rfl) (fun _ _ _ h => h) (Or.inl ⟨by rfl, ?_⟩) hHeld ?_ ?_
  rotate_left
  · rintro w' ⟨s0, s1, s2, s3, s4, s5, s6, s7, s8, s9, s10, s11, s12, s13, s14, s15, s16, s17, s18, s19, s20, s21, s22, s23, s24, s25, s26, s27, s28, s29, s30, s31⟩
    go_simp
    with_reducible rfl
  rotate_left
  · simp only [Act.put, List.setIfInBounds_toArray, List.set_cons_zero, List.set_cons_succ, i64_w, i32_w]
    rfl
  refine take_ (i := 3) (N := some 14) (v := ?_) (a' := ?_) #[true, true, false, true, false, false, false, false, false, false, false, false, false, false, false, false, false, false, false, false, false, false, false, false, false, false, false, false, false, false] rfl rfl (by kernel_rfl) (fun _ _ _ h => h) (Or.inl ⟨by rfl, ?_⟩) hHeld ?_ ?_
  rotate_left
  · rintro w' ⟨s0, s1, s2, s3, s4, s5, s6, s7, s8, s9, s10, s11, s12, s13, s14, s15, s16, s17, s18, s19, s20, s21, s22, s23, s24, s25, s26, s27, s28, s29, s30, s31⟩
    go_simp
    with_reducible rfl
  rotate_left
  · simp only [Act.put, List.setIfInBounds_toArray, List.set_cons_zero, List.set_cons_succ, i64_w, i32_w]
    rfl
  refine take_ (i := 4) (N := some 15) (v := ?_) (a' := ?_) #[true, true, false, true, true, false, false, false, false, false, false, false, false, false, false, false, false, false, false, false, false, false, false, false, false, false, false, false, false, false] rfl rfl (by kernel_rfl) (fun _ _ _ h => h) (Or.inl ⟨by rfl, ?_⟩) hHeld ?_ ?_
  rotate_left
  · rintro w' ⟨s0, s1, s2, s3, s4, s5, s6, s7, s8, s9, s10, s11, s12, s13, s14, s15, s16, s17, s18, s19, s20, s21, s22, s23, s24, s25, s26, s27, s28, s29, s30, s31⟩
    go_simp
    with_reducible rfl
  rotate_left
  · simp only [Act.put, List.setIfInBounds_toArray, List.set_cons_zero, List.set_cons_succ, i64_w, i32_w]
    rfl
  refine one_ (i := 2) (N := some 13) #[true, true, true, true, true, false, false, false, false, false, false, false, false, false, false, false, false, false, false, false, false, false, false, false, false, false, false, false, false, false] rfl rfl (by kernel_rfl) (by decide) (fun K hK => ?_)
  refine goes_ Try.func5 (by kernel_rfl) rfl #[.agg #[.slice x.B0 a.l0.length x.e0, .slice x.B1 a.l1.length x.e1, .slice x.B2 a.l2.length x.e2, .int .i64 a.h, .int .i64 a.c, .int .i64 a.s, .int .i64 a.st, .slice x.B7 a.ds.length x.e7], .agg #[.slice y.B0 b.l0.length y.e0, .slice y.B1 b.l1.length y.e1, .slice y.B2 b.l2.length y.e2, .int .i64 b.h, .int .i64 b.c, .int .i64 b.s, .int .i64 b.st, .slice y.B7 b.ds.length y.e7]] (by rfl) rfl rfl (by simp only [List.map_toArray, List.map_cons, List.map_nil]; rfl) ?_
  with_reducible refine (eq_calls ((HX5.out.below D0.out).rp (HA.out.below HD0.out.B)) ((HY5.out.below D0.out).rp (HB.out.below HD0.out.B))).mono ?_
  rintro e V1 ⟨rfl, k1⟩
  refine ⟨_, rfl, ?_⟩
  rw [← HR.out]
  have D1 := Aside0.mk (below_then D0.out D0.out.size k1)
  have HD1 := Aside0.mk (HD0.out.below k1)
  clear k1
  refine hK.out _ _ ⟨(HD1.out.cell 0 rfl 0), (HD1.out.cell 0 rfl 1), (HD1.out.cell 0 rfl 2), (HD1.out.cell 0 rfl 3), (HD1.out.cell 0 rfl 4), (HD1.out.cell 0 rfl 5), (HD1.out.cell 0 rfl 6), (HD1.out.cell 0 rfl 7), (HD1.out.cell 1 rfl 0), (HD1.out.cell 1 rfl 1), (HD1.out.cell 1 rfl 2), (HD1.out.cell 1 rfl 3), (HD1.out.cell 1 rfl 4), (HD1.out.cell 1 rfl 5), (HD1.out.cell 1 rfl 6), (HD1.out.cell 1 rfl 7), (HD1.out.cell 2 rfl 0), (HD1.out.cell 2 rfl 1), (HD1.out.cell 2 rfl 2), (HD1.out.cell 2 rfl 3), (HD1.out.cell 2 rfl 4), (HD1.out.cell 2 rfl 5), (HD1.out.cell 2 rfl 6), (HD1.out.cell 2 rfl 7), (HD1.out.cell 3 rfl 0), (HD1.out.cell 3 rfl 1), (HD1.out.cell 3 rfl 2), (HD1.out.cell 3 rfl 3), (HD1.out.cell 3 rfl 4), (HD1.out.cell 3 rfl 5), (HD1.out.cell 3 rfl 6), (HD1.out.cell 3 rfl 7)⟩ (fun hHeld => ?_)
  clear hK K
  refine norm_ (a' := ?_) ?_ ?_
  rotate_left
  · show Act.put _ (some 13) _ = _
    simp only [Act.put, List.setIfInBounds_toArray, List.set_cons_zero, List.set_cons_succ, i64_w, i32_w]
    rfl
  refine one_ (i := 5) (N := some 16) #[true, true, true, true, true, true, false, false, false, false, false, false, false, false, false, false, false, false, false, false, false, false, false, false, false, false, false, false, false, false] rfl rfl (by kernel_rfl) (by decide) (fun K hK => ?_)
  refine goes_ Try.func6 (by kernel_rfl) rfl #[.agg #[.slice a.A0 a.l0.length a.c0, .slice a.A1 a.l1.length a.c1, .slice a.A2 a.l2.length a.c2, .int .i64 a.h, .int .i64 a.c, .int .i64 a.s, .int .i64 a.st, .slice a.A3 a.ds.length a.c3], .agg #[.slice b.A0 b.l0.length b.c0, .slice b.A1 b.l1.length b.c1, .slice b.A2 b.l2.length b.c2, .int .i64 b.h, .int .i64 b.c, .int .i64 b.s, .int .i64 b.st, .slice b.A3 b.ds.length b.c3]] (by rfl) rfl rfl (by simp only [List.map_toArray, List.map_cons, List.map_nil]; rfl) ?_
  with_reducible refine (ref_calls (HA.out.below HD1.out.B).rp (HB.out.below HD1.out.B).rp HA.out.ds_le).mono ?_
  rintro e V2 ⟨rfl, k2⟩
  refine ⟨_, rfl, ?_⟩
  rw [← HR.out]
  have D2 := Aside0.mk (below_then D1.out D1.out.size k2)
  have HD2 := Aside0.mk (HD1.out.below k2)
  clear k2
  refine hK.out _ _ ⟨(HD2.out.cell 0 rfl 0), (HD2.out.cell 0 rfl 1), (HD2.out.cell 0 rfl 2), (HD2.out.cell 0 rfl 3), (HD2.out.cell 0 rfl 4), (HD2.out.cell 0 rfl 5), (HD2.out.cell 0 rfl 6), (HD2.out.cell 0 rfl 7), (HD2.out.cell 1 rfl 0), (HD2.out.cell 1 rfl 1), (HD2.out.cell 1 rfl 2), (HD2.out.cell 1 rfl 3), (HD2.out.cell 1 rfl 4), (HD2.out.cell 1 rfl 5), (HD2.out.cell 1 rfl 6), (HD2.out.cell 1 rfl 7), (HD2.out.cell 2 rfl 0), (HD2.out.cell 2 rfl 1), (HD2.out.cell 2 rfl 2), (HD2.out.cell 2 rfl 3), (HD2.out.cell 2 rfl 4), (HD2.out.cell 2 rfl 5), (HD2.out.cell 2 rfl 6), (HD2.out.cell 2 rfl 7), (HD2.out.cell 3 rfl 0), (HD2.out.cell 3 rfl 1), (HD2.out.cell 3 rfl 2), (HD2.out.cell 3 rfl 3), (HD2.out.cell 3 rfl 4), (HD2.out.cell 3 rfl 5), (HD2.out.cell 3 rfl 6), (HD2.out.cell 3 rfl 7)⟩ (fun hHeld => ?_)
  clear hK K
  refine norm_ (a' := ?_) ?_ ?_
  rotate_left
  · show Act.put _ (some 16) _ = _
    simp only [Act.put, List.setIfInBounds_toArray, List.set_cons_zero, List.set_cons_succ, i64_w, i32_w]
    rfl
  refine pure_ (i := 6) (N := some 17) (v := ?_) (a' := ?_) #[true, true, true, true, true, true, true, false, false, false, false, false, false, false, false, false, false, false, false, false, false, false, false, false, false, false, false, false, false, false] rfl rfl (by kernel_rfl) (fun _ _ _ h => h) (Or.inl ⟨by rfl, ?_⟩) ?_ ?_
  rotate_left
  · intro w'
    go_simp
    with_reducible rfl
  rotate_left
  · simp only [Act.put, List.setIfInBounds_toArray, List.set_cons_zero, List.set_cons_succ, i64_w, i32_w]
    rfl
  refine pure_ (i := 7) (N := some 18) (v := ?_) (a' := ?_) #[true, true, true, true, true, true, true, true, false, false, false, false, false, false, false, false, false, false, false, false, false, false, false, false, false, false, false, false, false, false] rfl rfl (by kernel_rfl) (fun _ _ _ h => h) (Or.inl ⟨by rfl, ?_⟩) ?_ ?_
  rotate_left
  · intro w'
    go_simp
    with_reducible rfl
  rotate_left
  · simp only [Act.put, List.setIfInBounds_toArray, List.set_cons_zero, List.set_cons_succ, i64_w, i32_w]
    rfl
  refine take_ (i := 8) (N := some 19) (v := ?_) (a' := ?_) #[true, true, true, true, true, true, true, true, true, false, false, false, false, false, false, false, false, false, false, false, false, false, false, false, false, false, false, false, false, false] rfl rfl (by kernel_rfl) (fun _ _ _ h => h) (Or.inl ⟨by rfl, ?_⟩) hHeld ?_ ?_
  rotate_left
  · rintro w' ⟨s0, s1, s2, s3, s4, s5, s6, s7, s8, s9, s10, s11, s12, s13, s14, s15, s16, s17, s18, s19, s20, s21, s22, s23, s24, s25, s26, s27, s28, s29, s30, s31⟩
    go_simp
    with_reducible rfl
  rotate_left
  · simp only [Act.put, List.setIfInBounds_toArray, List.set_cons_zero, List.set_cons_succ, i64_w, i32_w]
    rfl
  refine take_ (i := 9) (N := some 20) (v := ?_) (a' := ?_) #[true, true, true, true, true, true, true, true, true, true, false, false, false, false, false, false, false, false, false, false, false, false, false, false, false, false, false, false, false, false] rfl rfl (by kernel_rfl) (fun _ _ _ h => h) (Or.inl ⟨by rfl, ?_⟩) hHeld ?_ ?_
  rotate_left
  · rintro w' ⟨s0, s1, s2, s3, s4, s5, s6, s7, s8, s9, s10, s11, s12, s13, s14, s15, s16, s17, s18, s19, s20, s21, s22, s23, s24, s25, s26, s27, s28, s29, s30, s31⟩
    go_simp
    with_reducible rfl
  rotate_left
  · simp only [Act.put, List.setIfInBounds_toArray, List.set_cons_zero, List.set_cons_succ, i64_w, i32_w]
    rfl
  refine one_ (i := 10) (N := some 21) #[true, true, true, true, true, true, true, true, true, true, true, false, false, false, false, false, false, false, false, false, false, false, false, false, false, false, false, false, false, false] rfl rfl (by kernel_rfl) (by decide) (fun K hK => ?_)
  refine goes_ Try.func4 (by kernel_rfl) rfl #[.agg #[.slice a.A0 a.l0.length a.c0, .slice a.A1 a.l1.length a.c1, .slice a.A2 a.l2.length a.c2, .int .i64 a.h, .int .i64 a.c, .int .i64 a.s, .int .i64 a.st, .slice a.A3 a.ds.length a.c3]] (by rfl) rfl rfl (by simp only [List.map_toArray, List.map_cons, List.map_nil]; rfl) ?_
  with_reducible refine (own_calls a _ (HA.out.below HD2.out.B)).mono ?_
  rintro e V3 ⟨z, rfl, hz, k3⟩
  refine ⟨_, rfl, ?_⟩
  have HZ := Aside0.mk hz
  have D3 := Aside0.mk (below_then D2.out D2.out.size k3)
  have HD3 := Aside0.mk (HD2.out.below k3)
  clear k3 hz
  refine hK.out _ _ ⟨(HD3.out.cell 0 rfl 0), (HD3.out.cell 0 rfl 1), (HD3.out.cell 0 rfl 2), (HD3.out.cell 0 rfl 3), (HD3.out.cell 0 rfl 4), (HD3.out.cell 0 rfl 5), (HD3.out.cell 0 rfl 6), (HD3.out.cell 0 rfl 7), (HD3.out.cell 1 rfl 0), (HD3.out.cell 1 rfl 1), (HD3.out.cell 1 rfl 2), (HD3.out.cell 1 rfl 3), (HD3.out.cell 1 rfl 4), (HD3.out.cell 1 rfl 5), (HD3.out.cell 1 rfl 6), (HD3.out.cell 1 rfl 7), (HD3.out.cell 2 rfl 0), (HD3.out.cell 2 rfl 1), (HD3.out.cell 2 rfl 2), (HD3.out.cell 2 rfl 3), (HD3.out.cell 2 rfl 4), (HD3.out.cell 2 rfl 5), (HD3.out.cell 2 rfl 6), (HD3.out.cell 2 rfl 7), (HD3.out.cell 3 rfl 0), (HD3.out.cell 3 rfl 1), (HD3.out.cell 3 rfl 2), (HD3.out.cell 3 rfl 3), (HD3.out.cell 3 rfl 4), (HD3.out.cell 3 rfl 5), (HD3.out.cell 3 rfl 6), (HD3.out.cell 3 rfl 7)⟩ (fun hHeld => ?_)
  clear hK K
  refine norm_ (a' := ?_) ?_ ?_
  rotate_left
  · show Act.put _ (some 21) _ = _
    simp only [Act.put, List.setIfInBounds_toArray, List.set_cons_zero, List.set_cons_succ, i64_w, i32_w]
    rfl
  refine one_ (i := 11) (N := some 22) #[true, true, true, true, true, true, true, true, true, true, true, true, false, false, false, false, false, false, false, false, false, false, false, false, false, false, false, false, false, false] rfl rfl (by kernel_rfl) (by decide) (fun K hK => ?_)
  refine goes_ Try.func5 (by kernel_rfl) rfl #[.agg #[.slice x.B0 a.l0.length x.e0, .slice x.B1 a.l1.length x.e1, .slice x.B2 a.l2.length x.e2, .int .i64 a.h, .int .i64 a.c, .int .i64 a.s, .int .i64 a.st, .slice x.B7 a.ds.length x.e7], .agg #[.slice z.B0 a.l0.length z.e0, .slice z.B1 a.l1.length z.e1, .slice z.B2 a.l2.length z.e2, .int .i64 a.h, .int .i64 a.c, .int .i64 a.s, .int .i64 a.st, .slice z.B7 a.ds.length z.e7]] (by rfl) rfl rfl (by simp only [List.map_toArray, List.map_cons, List.map_nil]; rfl) ?_
  with_reducible refine (eq_calls ((HX5.out.below D3.out).rp (HA.out.below HD3.out.B)) (HZ.out.rp (HA.out.below HD3.out.B))).mono ?_
  rintro e V4 ⟨rfl, k4⟩
  refine ⟨_, rfl, ?_⟩
  rw [same_refl]
  have D4 := Aside0.mk (below_then D3.out D3.out.size k4)
  have HD4 := Aside0.mk (HD3.out.below k4)
  clear k4
  refine hK.out _ _ ⟨(HD4.out.cell 0 rfl 0), (HD4.out.cell 0 rfl 1), (HD4.out.cell 0 rfl 2), (HD4.out.cell 0 rfl 3), (HD4.out.cell 0 rfl 4), (HD4.out.cell 0 rfl 5), (HD4.out.cell 0 rfl 6), (HD4.out.cell 0 rfl 7), (HD4.out.cell 1 rfl 0), (HD4.out.cell 1 rfl 1), (HD4.out.cell 1 rfl 2), (HD4.out.cell 1 rfl 3), (HD4.out.cell 1 rfl 4), (HD4.out.cell 1 rfl 5), (HD4.out.cell 1 rfl 6), (HD4.out.cell 1 rfl 7), (HD4.out.cell 2 rfl 0), (HD4.out.cell 2 rfl 1), (HD4.out.cell 2 rfl 2), (HD4.out.cell 2 rfl 3), (HD4.out.cell 2 rfl 4), (HD4.out.cell 2 rfl 5), (HD4.out.cell 2 rfl 6), (HD4.out.cell 2 rfl 7), (HD4.out.cell 3 rfl 0), (HD4.out.cell 3 rfl 1), (HD4.out.cell 3 rfl 2), (HD4.out.cell 3 rfl 3), (HD4.out.cell 3 rfl 4), (HD4.out.cell 3 rfl 5), (HD4.out.cell 3 rfl 6), (HD4.out.cell 3 rfl 7)⟩ (fun hHeld => ?_)
  clear hK K
  refine norm_ (a' := ?_) ?_ ?_
  rotate_left
  · show Act.put _ (some 22) _ = _
    simp only [Act.put, List.setIfInBounds_toArray, List.set_cons_zero, List.set_cons_succ, i64_w, i32_w]
    rfl
  refine pure_ (i := 12) (N := some 23) (v := ?_) (a' := ?_) #[true, true, true, true, true, true, true, true, true, true, true, true, true, false, false, false, false, false, false, false, false, false, false, false, false, false, false, false, false, false] rfl rfl (by kernel_rfl) (fun _ _ _ h => h) (Or.inl ⟨by rfl, ?_⟩) ?_ ?_
  rotate_left
  · intro w'
    go_simp
    with_reducible rfl
  rotate_left
  · simp only [Act.put, List.setIfInBounds_toArray, List.set_cons_zero, List.set_cons_succ, i64_w, i32_w]
    rfl
  refine pure_ (i := 13) (N := some 24) (v := ?_) (a' := ?_) #[true, true, true, true, true, true, true, true, true, true, true, true, true, true, false, false, false, false, false, false, false, false, false, false, false, false, false, false, false, false] rfl rfl (by kernel_rfl) (fun _ _ _ h => h) (Or.inl ⟨by rfl, ?_⟩) ?_ ?_
  rotate_left
  · intro w'
    go_simp
    with_reducible rfl
  rotate_left
  · simp only [Act.put, List.setIfInBounds_toArray, List.set_cons_zero, List.set_cons_succ, i64_w, i32_w]
    rfl
  refine take_ (i := 14) (N := some 25) (v := ?_) (a' := ?_) #[true, true, true, true, true, true, true, true, true, true, true, true, true, true, true, false, false, false, false, false, false, false, false, false, false, false, false, false, false, false] rfl rfl (by kernel_rfl) (fun _ _ _ h => h) (Or.inl ⟨by rfl, ?_⟩) hHeld ?_ ?_
  rotate_left
  · rintro w' ⟨s0, s1, s2, s3, s4, s5, s6, s7, s8, s9, s10, s11, s12, s13, s14, s15, s16, s17, s18, s19, s20, s21, s22, s23, s24, s25, s26, s27, s28, s29, s30, s31⟩
    go_simp
    with_reducible rfl
  rotate_left
  · simp only [Act.put, List.setIfInBounds_toArray, List.set_cons_zero, List.set_cons_succ, i64_w, i32_w]
    rfl
  refine take_ (i := 16) (N := some 27) (v := ?_) (a' := ?_) #[true, true, true, true, true, true, true, true, true, true, true, true, true, true, true, false, true, false, false, false, false, false, false, false, false, false, false, false, false, false] rfl rfl (by kernel_rfl) (fun _ _ _ h => h) (Or.inl ⟨by rfl, ?_⟩) hHeld ?_ ?_
  rotate_left
  · rintro w' ⟨s0, s1, s2, s3, s4, s5, s6, s7, s8, s9, s10, s11, s12, s13, s14, s15, s16, s17, s18, s19, s20, s21, s22, s23, s24, s25, s26, s27, s28, s29, s30, s31⟩
    go_simp
    with_reducible rfl
  rotate_left
  · simp only [Act.put, List.setIfInBounds_toArray, List.set_cons_zero, List.set_cons_succ, i64_w, i32_w]
    rfl
  refine one_ (i := 15) (N := some 26) #[true, true, true, true, true, true, true, true, true, true, true, true, true, true, true, true, true, false, false, false, false, false, false, false, false, false, false, false, false, false] rfl rfl (by kernel_rfl) (by decide) (fun K hK => ?_)
  refine goes_ Try.func4 (by kernel_rfl) rfl #[.agg #[.slice b.A0 b.l0.length b.c0, .slice b.A1 b.l1.length b.c1, .slice b.A2 b.l2.length b.c2, .int .i64 b.h, .int .i64 b.c, .int .i64 b.s, .int .i64 b.st, .slice b.A3 b.ds.length b.c3]] (by rfl) rfl rfl (by simp only [List.map_toArray, List.map_cons, List.map_nil]; rfl) ?_
  with_reducible refine (own_calls b _ (HB.out.below HD4.out.B)).mono ?_
  rintro e V5 ⟨u, rfl, hu, k5⟩
  refine ⟨_, rfl, ?_⟩
  have HU := Aside0.mk hu
  have D5 := Aside0.mk (below_then D4.out D4.out.size k5)
  have HD5 := Aside0.mk (HD4.out.below k5)
  clear k5 hu
  refine hK.out _ _ ⟨(HD5.out.cell 0 rfl 0), (HD5.out.cell 0 rfl 1), (HD5.out.cell 0 rfl 2), (HD5.out.cell 0 rfl 3), (HD5.out.cell 0 rfl 4), (HD5.out.cell 0 rfl 5), (HD5.out.cell 0 rfl 6), (HD5.out.cell 0 rfl 7), (HD5.out.cell 1 rfl 0), (HD5.out.cell 1 rfl 1), (HD5.out.cell 1 rfl 2), (HD5.out.cell 1 rfl 3), (HD5.out.cell 1 rfl 4), (HD5.out.cell 1 rfl 5), (HD5.out.cell 1 rfl 6), (HD5.out.cell 1 rfl 7), (HD5.out.cell 2 rfl 0), (HD5.out.cell 2 rfl 1), (HD5.out.cell 2 rfl 2), (HD5.out.cell 2 rfl 3), (HD5.out.cell 2 rfl 4), (HD5.out.cell 2 rfl 5), (HD5.out.cell 2 rfl 6), (HD5.out.cell 2 rfl 7), (HD5.out.cell 3 rfl 0), (HD5.out.cell 3 rfl 1), (HD5.out.cell 3 rfl 2), (HD5.out.cell 3 rfl 3), (HD5.out.cell 3 rfl 4), (HD5.out.cell 3 rfl 5), (HD5.out.cell 3 rfl 6), (HD5.out.cell 3 rfl 7)⟩ (fun hHeld => ?_)
  clear hK K
  refine norm_ (a' := ?_) ?_ ?_
  rotate_left
  · show Act.put _ (some 26) _ = _
    simp only [Act.put, List.setIfInBounds_toArray, List.set_cons_zero, List.set_cons_succ, i64_w, i32_w]
    rfl
  refine one_ (i := 17) (N := some 28) #[true, true, true, true, true, true, true, true, true, true, true, true, true, true, true, true, true, true, false, false, false, false, false, false, false, false, false, false, false, false] rfl rfl (by kernel_rfl) (by decide) (fun K hK => ?_)
  refine goes_ Try.func5 (by kernel_rfl) rfl #[.agg #[.slice u.B0 b.l0.length u.e0, .slice u.B1 b.l1.length u.e1, .slice u.B2 b.l2.length u.e2, .int .i64 b.h, .int .i64 b.c, .int .i64 b.s, .int .i64 b.st, .slice u.B7 b.ds.length u.e7], .agg #[.slice y.B0 b.l0.length y.e0, .slice y.B1 b.l1.length y.e1, .slice y.B2 b.l2.length y.e2, .int .i64 b.h, .int .i64 b.c, .int .i64 b.s, .int .i64 b.st, .slice y.B7 b.ds.length y.e7]] (by rfl) rfl rfl (by simp only [List.map_toArray, List.map_cons, List.map_nil]; rfl) ?_
  with_reducible refine (eq_calls (HU.out.rp (HB.out.below HD5.out.B)) ((HY5.out.below D5.out).rp (HB.out.below HD5.out.B))).mono ?_
  rintro e V6 ⟨rfl, k6⟩
  refine ⟨_, rfl, ?_⟩
  rw [same_refl]
  have D6 := Aside0.mk (below_then D5.out D5.out.size k6)
  have HD6 := Aside0.mk (HD5.out.below k6)
  clear k6
  refine hK.out _ _ ⟨(HD6.out.cell 0 rfl 0), (HD6.out.cell 0 rfl 1), (HD6.out.cell 0 rfl 2), (HD6.out.cell 0 rfl 3), (HD6.out.cell 0 rfl 4), (HD6.out.cell 0 rfl 5), (HD6.out.cell 0 rfl 6), (HD6.out.cell 0 rfl 7), (HD6.out.cell 1 rfl 0), (HD6.out.cell 1 rfl 1), (HD6.out.cell 1 rfl 2), (HD6.out.cell 1 rfl 3), (HD6.out.cell 1 rfl 4), (HD6.out.cell 1 rfl 5), (HD6.out.cell 1 rfl 6), (HD6.out.cell 1 rfl 7), (HD6.out.cell 2 rfl 0), (HD6.out.cell 2 rfl 1), (HD6.out.cell 2 rfl 2), (HD6.out.cell 2 rfl 3), (HD6.out.cell 2 rfl 4), (HD6.out.cell 2 rfl 5), (HD6.out.cell 2 rfl 6), (HD6.out.cell 2 rfl 7), (HD6.out.cell 3 rfl 0), (HD6.out.cell 3 rfl 1), (HD6.out.cell 3 rfl 2), (HD6.out.cell 3 rfl 3), (HD6.out.cell 3 rfl 4), (HD6.out.cell 3 rfl 5), (HD6.out.cell 3 rfl 6), (HD6.out.cell 3 rfl 7)⟩ (fun hHeld => ?_)
  clear hK K
  refine norm_ (a' := ?_) ?_ ?_
  rotate_left
  · show Act.put _ (some 28) _ = _
    simp only [Act.put, List.setIfInBounds_toArray, List.set_cons_zero, List.set_cons_succ, i64_w, i32_w]
    rfl
  refine pure_ (i := 18) (N := some 29) (v := ?_) (a' := ?_) #[true, true, true, true, true, true, true, true, true, true, true, true, true, true, true, true, true, true, true, false, false, false, false, false, false, false, false, false, false, false] rfl rfl (by kernel_rfl) (fun _ _ _ h => h) (Or.inl ⟨by rfl, ?_⟩) ?_ ?_
  rotate_left
  · intro w'
    go_simp
    with_reducible rfl
  rotate_left
  · simp only [Act.put, List.setIfInBounds_toArray, List.set_cons_zero, List.set_cons_succ, i64_w, i32_w]
    rfl
  refine pure_ (i := 19) (N := some 30) (v := ?_) (a' := ?_) #[true, true, true, true, true, true, true, true, true, true, true, true, true, true, true, true, true, true, true, true, false, false, false, false, false, false, false, false, false, false] rfl rfl (by kernel_rfl) (fun _ _ _ h => h) (Or.inl ⟨by rfl, ?_⟩) ?_ ?_
  rotate_left
  · intro w'
    go_simp
    with_reducible rfl
  rotate_left
  · simp only [Act.put, List.setIfInBounds_toArray, List.set_cons_zero, List.set_cons_succ, i64_w, i32_w]
    rfl
  refine take_ (i := 20) (N := some 31) (v := ?_) (a' := ?_) #[true, true, true, true, true, true, true, true, true, true, true, true, true, true, true, true, true, true, true, true, true, false, false, false, false, false, false, false, false, false] rfl rfl (by kernel_rfl) (fun _ _ _ h => h) (Or.inl ⟨by rfl, ?_⟩) hHeld ?_ ?_
  rotate_left
  · rintro w' ⟨s0, s1, s2, s3, s4, s5, s6, s7, s8, s9, s10, s11, s12, s13, s14, s15, s16, s17, s18, s19, s20, s21, s22, s23, s24, s25, s26, s27, s28, s29, s30, s31⟩
    go_simp
    with_reducible rfl
  rotate_left
  · simp only [Act.put, List.setIfInBounds_toArray, List.set_cons_zero, List.set_cons_succ, i64_w, i32_w]
    rfl
  refine take_ (i := 21) (N := some 32) (v := ?_) (a' := ?_) #[true, true, true, true, true, true, true, true, true, true, true, true, true, true, true, true, true, true, true, true, true, true, false, false, false, false, false, false, false, false] rfl rfl (by kernel_rfl) (fun _ _ _ h => h) (Or.inl ⟨by rfl, ?_⟩) hHeld ?_ ?_
  rotate_left
  · rintro w' ⟨s0, s1, s2, s3, s4, s5, s6, s7, s8, s9, s10, s11, s12, s13, s14, s15, s16, s17, s18, s19, s20, s21, s22, s23, s24, s25, s26, s27, s28, s29, s30, s31⟩
    go_simp
    with_reducible rfl
  rotate_left
  · simp only [Act.put, List.setIfInBounds_toArray, List.set_cons_zero, List.set_cons_succ, i64_w, i32_w]
    rfl
  refine one_ (i := 22) (N := some 33) #[true, true, true, true, true, true, true, true, true, true, true, true, true, true, true, true, true, true, true, true, true, true, true, false, false, false, false, false, false, false] rfl rfl (by kernel_rfl) (by decide) (fun K hK => ?_)
  refine goes_ Try.func7 (by kernel_rfl) rfl #[.agg #[.slice x.B0 a.l0.length x.e0, .slice x.B1 a.l1.length x.e1, .slice x.B2 a.l2.length x.e2, .int .i64 a.h, .int .i64 a.c, .int .i64 a.s, .int .i64 a.st, .slice x.B7 a.ds.length x.e7], .agg #[.slice a.A0 a.l0.length a.c0, .slice a.A1 a.l1.length a.c1, .slice a.A2 a.l2.length a.c2, .int .i64 a.h, .int .i64 a.c, .int .i64 a.s, .int .i64 a.st, .slice a.A3 a.ds.length a.c3]] (by rfl) rfl rfl (by simp only [List.map_toArray, List.map_cons, List.map_nil]; rfl) ?_
  with_reducible refine (intact_calls a x _ (HA.out.below HD6.out.B) (HX5.out.below D6.out)).mono ?_
  rintro e V7 ⟨rfl, k7⟩
  refine ⟨_, rfl, ?_⟩
  have D7 := Aside0.mk (below_then D6.out D6.out.size k7)
  have HD7 := Aside0.mk (HD6.out.below k7)
  clear k7
  refine hK.out _ _ ⟨(HD7.out.cell 0 rfl 0), (HD7.out.cell 0 rfl 1), (HD7.out.cell 0 rfl 2), (HD7.out.cell 0 rfl 3), (HD7.out.cell 0 rfl 4), (HD7.out.cell 0 rfl 5), (HD7.out.cell 0 rfl 6), (HD7.out.cell 0 rfl 7), (HD7.out.cell 1 rfl 0), (HD7.out.cell 1 rfl 1), (HD7.out.cell 1 rfl 2), (HD7.out.cell 1 rfl 3), (HD7.out.cell 1 rfl 4), (HD7.out.cell 1 rfl 5), (HD7.out.cell 1 rfl 6), (HD7.out.cell 1 rfl 7), (HD7.out.cell 2 rfl 0), (HD7.out.cell 2 rfl 1), (HD7.out.cell 2 rfl 2), (HD7.out.cell 2 rfl 3), (HD7.out.cell 2 rfl 4), (HD7.out.cell 2 rfl 5), (HD7.out.cell 2 rfl 6), (HD7.out.cell 2 rfl 7), (HD7.out.cell 3 rfl 0), (HD7.out.cell 3 rfl 1), (HD7.out.cell 3 rfl 2), (HD7.out.cell 3 rfl 3), (HD7.out.cell 3 rfl 4), (HD7.out.cell 3 rfl 5), (HD7.out.cell 3 rfl 6), (HD7.out.cell 3 rfl 7)⟩ (fun hHeld => ?_)
  clear hK K
  refine norm_ (a' := ?_) ?_ ?_
  rotate_left
  · show Act.put _ (some 33) _ = _
    simp only [Act.put, List.setIfInBounds_toArray, List.set_cons_zero, List.set_cons_succ, i64_w, i32_w]
    rfl
  refine pure_ (i := 23) (N := some 34) (v := ?_) (a' := ?_) #[true, true, true, true, true, true, true, true, true, true, true, true, true, true, true, true, true, true, true, true, true, true, true, true, false, false, false, false, false, false] rfl rfl (by kernel_rfl) (fun _ _ _ h => h) (Or.inl ⟨by rfl, ?_⟩) ?_ ?_
  rotate_left
  · intro w'
    go_simp
    with_reducible rfl
  rotate_left
  · simp only [Act.put, List.setIfInBounds_toArray, List.set_cons_zero, List.set_cons_succ, i64_w, i32_w]
    rfl
  refine pure_ (i := 24) (N := some 35) (v := ?_) (a' := ?_) #[true, true, true, true, true, true, true, true, true, true, true, true, true, true, true, true, true, true, true, true, true, true, true, true, true, false, false, false, false, false] rfl rfl (by kernel_rfl) (fun _ _ _ h => h) (Or.inl ⟨by rfl, ?_⟩) ?_ ?_
  rotate_left
  · intro w'
    go_simp
    with_reducible rfl
  rotate_left
  · simp only [Act.put, List.setIfInBounds_toArray, List.set_cons_zero, List.set_cons_succ, i64_w, i32_w]
    rfl
  refine take_ (i := 25) (N := some 36) (v := ?_) (a' := ?_) #[true, true, true, true, true, true, true, true, true, true, true, true, true, true, true, true, true, true, true, true, true, true, true, true, true, true, false, false, false, false] rfl rfl (by kernel_rfl) (fun _ _ _ h => h) (Or.inl ⟨by rfl, ?_⟩) hHeld ?_ ?_
  rotate_left
  · rintro w' ⟨s0, s1, s2, s3, s4, s5, s6, s7, s8, s9, s10, s11, s12, s13, s14, s15, s16, s17, s18, s19, s20, s21, s22, s23, s24, s25, s26, s27, s28, s29, s30, s31⟩
    go_simp
    with_reducible rfl
  rotate_left
  · simp only [Act.put, List.setIfInBounds_toArray, List.set_cons_zero, List.set_cons_succ, i64_w, i32_w]
    rfl
  refine take_ (i := 26) (N := some 37) (v := ?_) (a' := ?_) #[true, true, true, true, true, true, true, true, true, true, true, true, true, true, true, true, true, true, true, true, true, true, true, true, true, true, true, false, false, false] rfl rfl (by kernel_rfl) (fun _ _ _ h => h) (Or.inl ⟨by rfl, ?_⟩) hHeld ?_ ?_
  rotate_left
  · rintro w' ⟨s0, s1, s2, s3, s4, s5, s6, s7, s8, s9, s10, s11, s12, s13, s14, s15, s16, s17, s18, s19, s20, s21, s22, s23, s24, s25, s26, s27, s28, s29, s30, s31⟩
    go_simp
    with_reducible rfl
  rotate_left
  · simp only [Act.put, List.setIfInBounds_toArray, List.set_cons_zero, List.set_cons_succ, i64_w, i32_w]
    rfl
  refine one_ (i := 27) (N := some 38) #[true, true, true, true, true, true, true, true, true, true, true, true, true, true, true, true, true, true, true, true, true, true, true, true, true, true, true, true, false, false] rfl rfl (by kernel_rfl) (by decide) (fun K hK => ?_)
  refine goes_ Try.func7 (by kernel_rfl) rfl #[.agg #[.slice y.B0 b.l0.length y.e0, .slice y.B1 b.l1.length y.e1, .slice y.B2 b.l2.length y.e2, .int .i64 b.h, .int .i64 b.c, .int .i64 b.s, .int .i64 b.st, .slice y.B7 b.ds.length y.e7], .agg #[.slice b.A0 b.l0.length b.c0, .slice b.A1 b.l1.length b.c1, .slice b.A2 b.l2.length b.c2, .int .i64 b.h, .int .i64 b.c, .int .i64 b.s, .int .i64 b.st, .slice b.A3 b.ds.length b.c3]] (by rfl) rfl rfl (by simp only [List.map_toArray, List.map_cons, List.map_nil]; rfl) ?_
  with_reducible refine (intact_calls b y _ (HB.out.below HD7.out.B) (HY5.out.below D7.out)).mono ?_
  rintro e V8 ⟨rfl, k8⟩
  refine ⟨_, rfl, ?_⟩
  have HD8 := Aside0.mk (HD7.out.below k8)
  clear k8
  refine hK.out _ _ ⟨(HD8.out.cell 0 rfl 0), (HD8.out.cell 0 rfl 1), (HD8.out.cell 0 rfl 2), (HD8.out.cell 0 rfl 3), (HD8.out.cell 0 rfl 4), (HD8.out.cell 0 rfl 5), (HD8.out.cell 0 rfl 6), (HD8.out.cell 0 rfl 7), (HD8.out.cell 1 rfl 0), (HD8.out.cell 1 rfl 1), (HD8.out.cell 1 rfl 2), (HD8.out.cell 1 rfl 3), (HD8.out.cell 1 rfl 4), (HD8.out.cell 1 rfl 5), (HD8.out.cell 1 rfl 6), (HD8.out.cell 1 rfl 7), (HD8.out.cell 2 rfl 0), (HD8.out.cell 2 rfl 1), (HD8.out.cell 2 rfl 2), (HD8.out.cell 2 rfl 3), (HD8.out.cell 2 rfl 4), (HD8.out.cell 2 rfl 5), (HD8.out.cell 2 rfl 6), (HD8.out.cell 2 rfl 7), (HD8.out.cell 3 rfl 0), (HD8.out.cell 3 rfl 1), (HD8.out.cell 3 rfl 2), (HD8.out.cell 3 rfl 3), (HD8.out.cell 3 rfl 4), (HD8.out.cell 3 rfl 5), (HD8.out.cell 3 rfl 6), (HD8.out.cell 3 rfl 7)⟩ (fun hHeld => ?_)
  clear hK K
  refine norm_ (a' := ?_) ?_ ?_
  rotate_left
  · show Act.put _ (some 38) _ = _
    simp only [Act.put, List.setIfInBounds_toArray, List.set_cons_zero, List.set_cons_succ, i64_w, i32_w]
    rfl
  refine pure_ (i := 28) (N := some 39) (v := ?_) (a' := ?_) #[true, true, true, true, true, true, true, true, true, true, true, true, true, true, true, true, true, true, true, true, true, true, true, true, true, true, true, true, true, false] rfl rfl (by kernel_rfl) (fun _ _ _ h => h) (Or.inl ⟨by rfl, ?_⟩) ?_ ?_
  rotate_left
  · intro w'
    go_simp
    with_reducible rfl
  rotate_left
  · simp only [Act.put, List.setIfInBounds_toArray, List.set_cons_zero, List.set_cons_succ, i64_w, i32_w]
    rfl
  refine pure_ (i := 29) (N := some 4) (v := ?_) (a' := ?_) #[true, true, true, true, true, true, true, true, true, true, true, true, true, true, true, true, true, true, true, true, true, true, true, true, true, true, true, true, true, true] rfl rfl (by kernel_rfl) (fun _ _ _ h => h) (Or.inl ⟨by rfl, ?_⟩) ?_ ?_
  rotate_left
  · intro w'
    go_simp
    with_reducible rfl
  rotate_left
  · simp only [Act.put, List.setIfInBounds_toArray, List.set_cons_zero, List.set_cons_succ, i64_w, i32_w]
    rfl
  refine done_ (by kernel_rfl) ?_
  go_wp2
  go_ret
  exact ⟨rfl, HD8.out.B⟩
end LawW
end Go.Proofs.Ytmhndfnmdkeiaaa
