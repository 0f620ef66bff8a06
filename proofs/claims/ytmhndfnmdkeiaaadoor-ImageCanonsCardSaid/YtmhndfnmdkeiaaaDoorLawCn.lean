/- ImageCanons: of any program the law's function answers true, and leaves all that was there as it was. Condition: the lists are no longer than they may be. -/
import Derived.Test.YtmhndfnmdkeiaaaDoorCg
import Derived.Test.YtmhndfnmdkeiaaaDoorIntact
namespace Go.Proofs.YtmhndfnmdkeiaaaDoor
open Go.RowKit Go.Proofs.YtmhndfnmdkeiaaaDoorW.PrintWords Go.Proofs.YtmhndfnmdkeiaaaDoorW.PrintLast Go.Proofs.YtmhndfnmdkeiaaaDoorW.PrintMore
open PEqual KitW EqW RefEq OwnW IntactW Cn
namespace LawW
set_option linter.unusedVariables false
set_option linter.unusedSimpArgs false
attribute [local go_sem] max2_int min2_int max_two min_two max_three min_three max_four min_four
/-- A program that came in. -/
structure PD where
  A0 : Option Addr
  c0 : Nat
  A1 : Option Addr
  c1 : Nat
  A2 : Option Addr
  c2 : Nat
  A3 : Option Addr
  c3 : Nat
  l0 : List ByteArray
  l1 : List ByteArray
  l2 : List Int
  h : Int
  c : Int
  s : Int
  st : Int
  ds : List (Int × Option (List S56))
/-- Its copy's rows. -/
structure QD where
  B0 : Option Addr
  e0 : Nat
  B1 : Option Addr
  e1 : Nat
  B2 : Option Addr
  e2 : Nat
  B7 : Option Addr
  e7 : Nat
structure PD.Ok (p : PD) (w : World) : Prop where
  z0 : p.A0 = none → p.l0.length = 0 ∧ p.c0 = 0
  z1 : p.A1 = none → p.l1.length = 0 ∧ p.c1 = 0
  z2 : p.A2 = none → p.l2.length = 0 ∧ p.c2 = 0
  z3 : p.A3 = none → p.ds.length = 0 ∧ p.c3 = 0
  k0 : p.l0.length ≤ p.c0
  k1 : p.l1.length ≤ p.c1
  k2 : p.l2.length ≤ p.c2
  k3 : p.ds.length ≤ p.c3
  b0 : p.l0.length * 16 ≤ 140737488351232
  b1 : p.l1.length * 16 ≤ 140737488351232
  b2 : p.l2.length * 8 ≤ 140737488351232
  b3 : p.ds.length * 32 ≤ 140737488351232
  r0 : Kd.C Kd.string w p.A0 p.l0.length p.l0
  r1 : Kd.C Kd.string w p.A1 p.l1.length p.l1
  r2 : Kd.C (Kd.int .i64) w p.A2 p.l2.length p.l2
  r3 : ReadsRow (segR w) 2 w p.A3 p.ds.length p.ds
  bd : ∀ x ∈ p.ds, ∀ l, x.2 = some l → l.length * 24 ≤ 140737488351232
theorem segR_below {w w1 : World} {x : Int × Option (List S56)} {cs : List Value} (hb : Below w.heap.size w w1) (h : segR w x cs) : segR w1 x cs := by
  obtain ⟨v, rfl, hv⟩ := h
  exact ⟨v, rfl, nrd.below hv hb⟩
theorem PD.Ok.below {p : PD} {w w1 : World} (h : p.Ok w) (hb : Below w.heap.size w w1) : p.Ok w1 :=
  ⟨h.z0, h.z1, h.z2, h.z3, h.k0, h.k1, h.k2, h.k3, h.b0, h.b1, h.b2, h.b3, Kd.C_below h.r0 hb, Kd.C_below h.r1 hb, Kd.C_below h.r2 hb, ReadsRow.imp_ h.r3 hb (fun _ _ hp => segR_below hb hp), h.bd⟩
/-- The copy reads as it shall. -/
structure QD.Ok (q : QD) (p : PD) (w : World) : Prop where
  k0 : (tail 9 Kd.string behind).K w (nl p.A0 p.l0) [.slice q.B0 p.l0.length q.e0]
  k1 : (tail 9 Kd.string behind).K w (nl p.A1 p.l1) [.slice q.B1 p.l1.length q.e1]
  k2 : (tail 3 (Kd.int .i64) (-4711)).K w (nl p.A2 p.l2) [.slice q.B2 p.l2.length q.e2]
  k3 : kseg.C w q.B7 p.ds.length p.ds
  k4 : p.ds.length ≤ q.e7
theorem QD.Ok.below {q : QD} {p : PD} {w w1 : World} (h : q.Ok p w) (hb : Below w.heap.size w w1) : q.Ok p w1 :=
  ⟨Kd.K_below _ hb h.k0, Kd.K_below _ hb h.k1, Kd.K_below _ hb h.k2, Kd.C_below h.k3 hb, h.k4⟩
theorem PD.Ok.ds_le {p : PD} {w : World} (h : p.Ok w) (i : Nat) : ((p.ds.map conv).getD i z54).f1.length ≤ 9223372036854775807 := by
  rw [List.getD_eq_getElem?_getD, List.getElem?_map]
  cases hx : p.ds[i]? with
  | none => simp [z54]
  | some x =>
    have hxm : x ∈ p.ds := List.mem_of_getElem? hx
    have := h.bd x hxm
    obtain ⟨xd, xc⟩ := x
    cases xc with
    | none => simp [conv]
    | some l => have := this l rfl; simp [conv]; omega
/-- A program's value, readable as lists. -/
structure Rp (w : World) (v : Value) (n0 c0 : List ByteArray) (p0 : List Int) (h0 e0 s0 t0 : Int) (d0 : List S54) : Prop where
  ex : ∃ A0 a0 B0 b0 C0 g0 D0 k0, v = .agg #[.slice A0 n0.length a0, .slice B0 c0.length b0, .slice C0 p0.length g0, .int .i64 h0, .int .i64 e0, .int .i64 s0, .int .i64 t0, .slice D0 d0.length k0] ∧
    Kd.C Kd.string w A0 n0.length n0 ∧ Kd.C Kd.string w B0 c0.length c0 ∧ Kd.C (Kd.int .i64) w C0 p0.length p0 ∧ k54.C w D0 d0.length d0 ∧ n0.length ≤ a0 ∧ c0.length ≤ b0 ∧ p0.length ≤ g0 ∧ d0.length ≤ k0
theorem PD.Ok.rp {p : PD} {w : World} (h : p.Ok w) : Rp w (.agg #[.slice p.A0 p.l0.length p.c0, .slice p.A1 p.l1.length p.c1, .slice p.A2 p.l2.length p.c2, .int .i64 p.h, .int .i64 p.c, .int .i64 p.s, .int .i64 p.st, .slice p.A3 p.ds.length p.c3]) p.l0 p.l1 p.l2 p.h p.c p.s p.st (p.ds.map conv) := by
  have hl : (p.ds.map conv).length = p.ds.length := List.length_map _
  refine ⟨p.A0, p.c0, p.A1, p.c1, p.A2, p.c2, p.A3, p.c3, by rw [hl], h.r0, h.r1, h.r2, ?_, h.k0, h.k1, h.k2, by rw [hl]; exact h.k3⟩
  rw [hl]
  exact reads_map conv seg_k h.r3
theorem QD.Ok.rp {q : QD} {p : PD} {w : World} (h : q.Ok p w) (hp : p.Ok w) : Rp w (.agg #[.slice q.B0 p.l0.length q.e0, .slice q.B1 p.l1.length q.e1, .slice q.B2 p.l2.length q.e2, .int .i64 p.h, .int .i64 p.c, .int .i64 p.s, .int .i64 p.st, .slice q.B7 p.ds.length q.e7]) p.l0 p.l1 p.l2 p.h p.c p.s p.st (p.ds.map conv) := by
  have hl : (p.ds.map conv).length = p.ds.length := List.length_map _
  obtain ⟨x1, x2, e1, x3, x4⟩ := tail_nil h.k0
  obtain ⟨y1, y2, e2, y3, y4⟩ := tail_nil h.k1
  obtain ⟨z1, z2, e3, z3, z4⟩ := tail_nil h.k2
  injection e1 with e11 e12 e13
  injection e2 with e21 e22 e23
  injection e3 with e31 e32 e33
  rw [nl_getD (fun hh => (hp.z0 hh).1)] at x3 x4
  rw [nl_getD (fun hh => (hp.z1 hh).1)] at y3 y4
  rw [nl_getD (fun hh => (hp.z2 hh).1)] at z3 z4
  subst e11 e13 e21 e23 e31 e33
  refine ⟨q.B0, q.e0, q.B1, q.e1, q.B2, q.e2, q.B7, q.e7, by rw [hl], x4, y4, z4, ?_, x3, y3, z3, by rw [hl]; exact h.k4⟩
  rw [hl]
  exact reads_map conv kseg_k h.k3
/-- own, in short. -/
theorem own_calls (p : PD) (w : World) (h : p.Ok w) : Calls Tryd.prog 8 #[.agg #[.slice p.A0 p.l0.length p.c0, .slice p.A1 p.l1.length p.c1, .slice p.A2 p.l2.length p.c2, .int .i64 p.h, .int .i64 p.c, .int .i64 p.s, .int .i64 p.st, .slice p.A3 p.ds.length p.c3]] w fun e w' => ∃ q : QD, e = .returned (.agg #[.slice q.B0 p.l0.length q.e0, .slice q.B1 p.l1.length q.e1, .slice q.B2 p.l2.length q.e2, .int .i64 p.h, .int .i64 p.c, .int .i64 p.s, .int .i64 p.st, .slice q.B7 p.ds.length q.e7]) ∧ q.Ok p w' ∧ Below w.heap.size w w' := by
  refine (own_walk p.A0 p.l0.length p.c0 p.A1 p.l1.length p.c1 p.A2 p.l2.length p.c2 p.h p.c p.s p.st p.A3 p.ds.length p.c3 w h.z0 h.z1 h.z2 h.z3 h.b0 h.b1 h.b2 h.b3 p.l0 rfl h.r0 p.l1 rfl h.r1 p.l2 rfl h.r2 p.ds h.r3 h.bd).mono ?_
  rintro e w' ⟨v0, v1, v2, v7, rfl, hs⟩
  have g0 := hs.val 0 rfl
  have g1 := hs.val 1 rfl
  have g2 := hs.val 2 rfl
  obtain ⟨B7, e7, rfl, h7, g7⟩ := hs.row 3 rfl
  obtain ⟨B0, e0, rfl, _, _⟩ := tail_nil g0
  obtain ⟨B1, e1, rfl, _, _⟩ := tail_nil g1
  obtain ⟨B2, e2, rfl, _, _⟩ := tail_nil g2
  rw [nl_getD (fun hh => (h.z0 hh).1)] at g0 ⊢
  rw [nl_getD (fun hh => (h.z1 hh).1)] at g1 ⊢
  rw [nl_getD (fun hh => (h.z2 hh).1)] at g2 ⊢
  exact ⟨⟨B0, e0, B1, e1, B2, e2, B7, e7⟩, rfl, ⟨g0, g1, g2, g7, h7⟩, hs.B⟩
theorem ref_calls {w : World} {v v' : Value} {n0 c0 : List ByteArray} {p0 : List Int} {h0 e0 s0 t0 : Int} {d0 : List S54} {n1 c1 : List ByteArray} {p1 : List Int} {h1 e1 s1 t1 : Int} {d1 : List S54}
    (r : Rp w v n0 c0 p0 h0 e0 s0 t0 d0) (r' : Rp w v' n1 c1 p1 h1 e1 s1 t1 d1) (hm : ∀ i : Nat, (d0.getD i z54).f1.length ≤ 9223372036854775807) : Calls Tryd.prog 18 #[v, v'] w fun e w' => e = .returned (.bool (same n0 c0 p0 h0 e0 s0 t0 d0 n1 c1 p1 h1 e1 s1 t1 d1)) ∧ Below w.heap.size w w' := by
  obtain ⟨_, _, _, _, _, _, _, _, rfl, a1, a2, a3, a4, q1, q2, q3, q4⟩ := r.ex
  obtain ⟨_, _, _, _, _, _, _, _, rfl, b1, b2, b3, b4, q5, q6, q7, q8⟩ := r'.ex
  obtain ⟨k, hk⟩ := (equal_ev n0 c0 p0 h0 e0 s0 t0 d0 n1 c1 p1 h1 e1 s1 t1 d1 a1.2.1 a2.2.1 a3.2.1 a4.2.1 hm).rounds
  exact payoffref12_Equal.calls k _ _ n0 _ _ c0 _ _ p0 h0 e0 s0 t0 _ _ d0 _ _ n1 _ _ c1 _ _ p1 h1 e1 s1 t1 _ _ d1 _ w a1 q1 a2 q2 a3 q3 a4 q4 b1 q5 b2 q6 b3 q7 b4 q8 hk
theorem intact_calls (p : PD) (q : QD) (w : World) (h : p.Ok w) (hq : q.Ok p w) : Calls Tryd.prog 11 #[.agg #[.slice q.B0 p.l0.length q.e0, .slice q.B1 p.l1.length q.e1, .slice q.B2 p.l2.length q.e2, .int .i64 p.h, .int .i64 p.c, .int .i64 p.s, .int .i64 p.st, .slice q.B7 p.ds.length q.e7], .agg #[.slice p.A0 p.l0.length p.c0, .slice p.A1 p.l1.length p.c1, .slice p.A2 p.l2.length p.c2, .int .i64 p.h, .int .i64 p.c, .int .i64 p.s, .int .i64 p.st, .slice p.A3 p.ds.length p.c3]] w fun e w' => e = .returned (.bool true) ∧ Below w.heap.size w w' :=
  intact_walk p.A0 p.c0 p.A1 p.c1 p.A2 p.c2 p.h p.c p.s p.st p.A3 p.c3 q.B0 p.l0.length q.e0 q.B1 p.l1.length q.e1 q.B2 p.l2.length q.e2 q.B7 p.ds.length q.e7 w p.l0 p.l1 p.l2 p.ds (fun hh => (h.z0 hh).1) (fun hh => (h.z1 hh).1) (fun hh => (h.z2 hh).1)
    h.r0 h.r1 h.r2 h.r3 h.k0 h.k1 h.k2 h.k3 hq.k0 hq.k1 hq.k2 hq.k3 hq.k4 (fun x hx l hl => by have := h.bd x hx l hl; omega)
theorem can_calls {w : World} {v : Value} {n0 c0 : List ByteArray} {p0 : List Int} {h0 e0 s0 t0 : Int} {d0 : List S54} (r : Rp w v n0 c0 p0 h0 e0 s0 t0 d0) (lk : Lk w) (hb : ∀ d ∈ d0, d.f1.length ≤ 140737488351232) :
    Calls Tryd.prog 9 #[v] w fun e w' => e = .returned (.int .i64 (canI n0 c0 p0 h0 e0 s0 t0 d0)) ∧ Below w.heap.size w w' := by
  obtain ⟨_, _, _, _, _, _, _, _, rfl, a1, a2, a3, a4, _⟩ := r.ex
  exact canI_calls _ _ n0 _ _ c0 _ _ p0 h0 e0 s0 t0 _ _ d0 w a1 a2 a3 a4 lk hb
theorem canr_calls {w : World} {v : Value} {n0 c0 : List ByteArray} {p0 : List Int} {h0 e0 s0 t0 : Int} {d0 : List S54} (r : Rp w v n0 c0 p0 h0 e0 s0 t0 d0) (z : ∀ s ∈ n0, s.size ≤ 140737488351232) (lr : Lr w) (hb : ∀ d ∈ d0, d.f1.length ≤ 140737488351232) :
    Calls Tryd.prog 10 #[v] w fun e w' => e = .returned (.int .i64 (canI n0 c0 p0 h0 e0 s0 t0 d0)) ∧ Below w.heap.size w w' := by
  obtain ⟨_, _, _, _, _, _, _, _, rfl, a1, a2, a3, a4, _⟩ := r.ex
  rw [can_eq]
  exact canR_calls _ _ n0 _ _ c0 _ _ p0 h0 e0 s0 t0 _ _ d0 w a1 a2 a3 z a4 lr hb
theorem PD.Ok.ds_mem {p : PD} {w : World} (h : p.Ok w) : ∀ d ∈ p.ds.map conv, d.f1.length ≤ 140737488351232 := by
  intro d hd
  obtain ⟨x, hx, rfl⟩ := List.mem_map.1 hd
  have := h.bd x hx
  obtain ⟨xd, xc⟩ := x
  cases xc with
  | none => simp [conv]
  | some l => have := this l rfl; simp [conv]; omega
set_option maxRecDepth 100000 in
set_option maxHeartbeats 8000000 in
theorem law_calls (p : PD) (w : World) (hp : p.Ok w) (zb : ∀ s ∈ p.l0, s.size ≤ 140737488351232) (lk : Lk w) (lr : Lr w) : Calls Tryd.prog 3 #[.agg #[.slice p.A0 p.l0.length p.c0, .slice p.A1 p.l1.length p.c1, .slice p.A2 p.l2.length p.c2, .int .i64 p.h, .int .i64 p.c, .int .i64 p.s, .int .i64 p.st, .slice p.A3 p.ds.length p.c3]] w fun e w' => e = .returned (.bool true) ∧ Below w.heap.size w w' := by
  have HP := Aside0.mk hp
  have ZB := Aside0.mk zb
  have LK := Aside0.mk lk
  have LR := Aside0.mk lr
  clear hp zb lk lr
  have HS := Aside0.mk ((St.start w).alloc #[.slice p.A0 p.l0.length p.c0, .slice p.A1 p.l1.length p.c1, .slice p.A2 p.l2.length p.c2, .int .i64 p.h, .int .i64 p.c, .int .i64 p.s, .int .i64 p.st, .slice p.A3 p.ds.length p.c3] 26)
  go_enter Tryd.func3, Tryd.ntmps3
  go_upto_region 1 with (fail)
  obtain ⟨w1, hw1⟩ : ∃ w1, w1 = w.alloc (.cells #[.slice p.A0 p.l0.length p.c0, .slice p.A1 p.l1.length p.c1, .slice p.A2 p.l2.length p.c2, .int .i64 p.h, .int .i64 p.c, .int .i64 p.s, .int .i64 p.st, .slice p.A3 p.ds.length p.c3] 26 (0, 0)) := ⟨_, rfl⟩
  obtain ⟨g0, hg0⟩ : ∃ g, g = w.heap.size := ⟨_, rfl⟩
  have HS1 : Aside0 (St w w1 [Box g0 #[.slice p.A0 p.l0.length p.c0, .slice p.A1 p.l1.length p.c1, .slice p.A2 p.l2.length p.c2, .int .i64 p.h, .int .i64 p.c, .int .i64 p.s, .int .i64 p.st, .slice p.A3 p.ds.length p.c3] 26]) := by rw [hw1, hg0]; exact ⟨by simpa using HS.out⟩
  rw [← hw1, ← hg0]
  clear hw1 hg0 HS
  have q00 : w1.cell? ⟨g0, 0, none⟩ = some (.slice p.A0 p.l0.length p.c0) := HS1.out.cell 0 rfl 0
  have q01 : w1.cell? ⟨g0, 1, none⟩ = some (.slice p.A1 p.l1.length p.c1) := HS1.out.cell 0 rfl 1
  have q02 : w1.cell? ⟨g0, 2, none⟩ = some (.slice p.A2 p.l2.length p.c2) := HS1.out.cell 0 rfl 2
  have q03 : w1.cell? ⟨g0, 3, none⟩ = some (.int .i64 p.h) := HS1.out.cell 0 rfl 3
  have q04 : w1.cell? ⟨g0, 4, none⟩ = some (.int .i64 p.c) := HS1.out.cell 0 rfl 4
  have q05 : w1.cell? ⟨g0, 5, none⟩ = some (.int .i64 p.s) := HS1.out.cell 0 rfl 5
  have q06 : w1.cell? ⟨g0, 6, none⟩ = some (.int .i64 p.st) := HS1.out.cell 0 rfl 6
  have q07 : w1.cell? ⟨g0, 7, none⟩ = some (.slice p.A3 p.ds.length p.c3) := HS1.out.cell 0 rfl 7
  go_wp2_with (go_at_call 8; refine stop ?_)
  refine Stop.mk ?_
  refine (own_calls p _ (HP.out.below HS1.out.B)).mono ?_
  rintro e w2 ⟨q, rfl, hq, hb2⟩
  have HQ := Aside0.mk hq
  have HS2 := Aside0.mk (HS1.out.below hb2)
  clear hq hb2 HS1
  clear q00 q01 q02 q03 q04 q05 q06 q07
  go_upto_region 2 with (fail)
  obtain ⟨w3, hw3⟩ : ∃ w3, w3 = w2.alloc (.cells #[.slice q.B0 p.l0.length q.e0, .slice q.B1 p.l1.length q.e1, .slice q.B2 p.l2.length q.e2, .int .i64 p.h, .int .i64 p.c, .int .i64 p.s, .int .i64 p.st, .slice q.B7 p.ds.length q.e7] 26 (0, 0)) := ⟨_, rfl⟩
  have HS3' := HS2.out.alloc #[.slice q.B0 p.l0.length q.e0, .slice q.B1 p.l1.length q.e1, .slice q.B2 p.l2.length q.e2, .int .i64 p.h, .int .i64 p.c, .int .i64 p.s, .int .i64 p.st, .slice q.B7 p.ds.length q.e7] 26
  have HQ3 := Aside0.mk (HQ.out.below (below_alloc (Below.refl _ w2) (.cells #[.slice q.B0 p.l0.length q.e0, .slice q.B1 p.l1.length q.e1, .slice q.B2 p.l2.length q.e2, .int .i64 p.h, .int .i64 p.c, .int .i64 p.s, .int .i64 p.st, .slice q.B7 p.ds.length q.e7] 26 (0, 0))))
  obtain ⟨g1, hg1⟩ : ∃ g, g = w2.heap.size := ⟨_, rfl⟩
  rw [← hw3, ← hg1] at HS3' ⊢
  rw [← hw3] at HQ3
  have HS3 : Aside0 (St w w3 [Box g0 #[.slice p.A0 p.l0.length p.c0, .slice p.A1 p.l1.length p.c1, .slice p.A2 p.l2.length p.c2, .int .i64 p.h, .int .i64 p.c, .int .i64 p.s, .int .i64 p.st, .slice p.A3 p.ds.length p.c3] 26, Box g1 #[.slice q.B0 p.l0.length q.e0, .slice q.B1 p.l1.length q.e1, .slice q.B2 p.l2.length q.e2, .int .i64 p.h, .int .i64 p.c, .int .i64 p.s, .int .i64 p.st, .slice q.B7 p.ds.length q.e7] 26]) := ⟨HS3'⟩
  clear HS3' hw3 hg1 HS2 HQ
  have q00 : w3.cell? ⟨g0, 0, none⟩ = some (.slice p.A0 p.l0.length p.c0) := HS3.out.cell 0 rfl 0
  have q01 : w3.cell? ⟨g0, 1, none⟩ = some (.slice p.A1 p.l1.length p.c1) := HS3.out.cell 0 rfl 1
  have q02 : w3.cell? ⟨g0, 2, none⟩ = some (.slice p.A2 p.l2.length p.c2) := HS3.out.cell 0 rfl 2
  have q03 : w3.cell? ⟨g0, 3, none⟩ = some (.int .i64 p.h) := HS3.out.cell 0 rfl 3
  have q04 : w3.cell? ⟨g0, 4, none⟩ = some (.int .i64 p.c) := HS3.out.cell 0 rfl 4
  have q05 : w3.cell? ⟨g0, 5, none⟩ = some (.int .i64 p.s) := HS3.out.cell 0 rfl 5
  have q06 : w3.cell? ⟨g0, 6, none⟩ = some (.int .i64 p.st) := HS3.out.cell 0 rfl 6
  have q07 : w3.cell? ⟨g0, 7, none⟩ = some (.slice p.A3 p.ds.length p.c3) := HS3.out.cell 0 rfl 7
  have q10 : w3.cell? ⟨g1, 0, none⟩ = some (.slice q.B0 p.l0.length q.e0) := HS3.out.cell 1 rfl 0
  have q11 : w3.cell? ⟨g1, 1, none⟩ = some (.slice q.B1 p.l1.length q.e1) := HS3.out.cell 1 rfl 1
  have q12 : w3.cell? ⟨g1, 2, none⟩ = some (.slice q.B2 p.l2.length q.e2) := HS3.out.cell 1 rfl 2
  have q13 : w3.cell? ⟨g1, 3, none⟩ = some (.int .i64 p.h) := HS3.out.cell 1 rfl 3
  have q14 : w3.cell? ⟨g1, 4, none⟩ = some (.int .i64 p.c) := HS3.out.cell 1 rfl 4
  have q15 : w3.cell? ⟨g1, 5, none⟩ = some (.int .i64 p.s) := HS3.out.cell 1 rfl 5
  have q16 : w3.cell? ⟨g1, 6, none⟩ = some (.int .i64 p.st) := HS3.out.cell 1 rfl 6
  have q17 : w3.cell? ⟨g1, 7, none⟩ = some (.slice q.B7 p.ds.length q.e7) := HS3.out.cell 1 rfl 7
  obtain ⟨r, hr⟩ : ∃ r, r = canI p.l0 p.l1 p.l2 p.h p.c p.s p.st (p.ds.map conv) := ⟨_, rfl⟩
  have HR := Aside0.mk hr
  clear hr
  have hrr : (r == r) = true := by simp
  have D0 := Aside0.mk (below_drew (Below.refl w3.heap.size w3))
  have HD0 := Aside0.mk HS3.out.drew
  refine start_ (n := 11) (S := fun w' => w'.cell? ⟨g0, 0, none⟩ = some (.slice p.A0 p.l0.length p.c0) ∧ w'.cell? ⟨g0, 1, none⟩ = some (.slice p.A1 p.l1.length p.c1) ∧ w'.cell? ⟨g0, 2, none⟩ = some (.slice p.A2 p.l2.length p.c2) ∧ w'.cell? ⟨g0, 3, none⟩ = some (.int .i64 p.h) ∧ w'.cell? ⟨g0, 4, none⟩ = some (.int .i64 p.c) ∧ w'.cell? ⟨g0, 5, none⟩ = some (.int .i64 p.s) ∧ w'.cell? ⟨g0, 6, none⟩ = some (.int .i64 p.st) ∧ w'.cell? ⟨g0, 7, none⟩ = some (.slice p.A3 p.ds.length p.c3) ∧ w'.cell? ⟨g1, 0, none⟩ = some (.slice q.B0 p.l0.length q.e0) ∧ w'.cell? ⟨g1, 1, none⟩ = some (.slice q.B1 p.l1.length q.e1) ∧ w'.cell? ⟨g1, 2, none⟩ = some (.slice q.B2 p.l2.length q.e2) ∧ w'.cell? ⟨g1, 3, none⟩ = some (.int .i64 p.h) ∧ w'.cell? ⟨g1, 4, none⟩ = some (.int .i64 p.c) ∧ w'.cell? ⟨g1, 5, none⟩ = some (.int .i64 p.s) ∧ w'.cell? ⟨g1, 6, none⟩ = some (.int .i64 p.st) ∧ w'.cell? ⟨g1, 7, none⟩ = some (.slice q.B7 p.ds.length q.e7)) (ds := []) #[false, false, false, false, false, false, false, false, false, false, false] (by kernel_rfl) rfl rfl ⟨(HS3.out.drew.cell 0 rfl 0), (HS3.out.drew.cell 0 rfl 1), (HS3.out.drew.cell 0 rfl 2), (HS3.out.drew.cell 0 rfl 3), (HS3.out.drew.cell 0 rfl 4), (HS3.out.drew.cell 0 rfl 5), (HS3.out.drew.cell 0 rfl 6), (HS3.out.drew.cell 0 rfl 7), (HS3.out.drew.cell 1 rfl 0), (HS3.out.drew.cell 1 rfl 1), (HS3.out.drew.cell 1 rfl 2), (HS3.out.drew.cell 1 rfl 3), (HS3.out.drew.cell 1 rfl 4), (HS3.out.drew.cell 1 rfl 5), (HS3.out.drew.cell 1 rfl 6), (HS3.out.drew.cell 1 rfl 7)⟩ (fun hHeld => ?_)
  refine take_ (i := 0) (N := some 6) (v := ?_) (a' := ?_) #[true, false, false, false, false, false, false, false, false, false, false] rfl rfl (by kernel_rfl) (fun _ _ _ h => h) (Or.inl ⟨by rfl, ?_⟩) hHeld ?_ ?_
  rotate_left
  · rintro w' ⟨s0, s1, s2, s3, s4, s5, s6, s7, s8, s9, s10, s11, s12, s13, s14, s15⟩
    go_simp
    with_reducible rfl
  rotate_left
  · simp only [Act.put, List.setIfInBounds_toArray, List.set_cons_zero, List.set_cons_succ, i64_w, i32_w]
    rfl
  refine take_ (i := 2) (N := some 8) (v := ?_) (a' := ?_) #[true, false, true, false, false, false, false, false, false, false, false] rfl rfl (by kernel_rfl) (fun _ _ _ h => h) (Or.inl ⟨by rfl, ?_⟩) hHeld ?_ ?_
  rotate_left
  · rintro w' ⟨s0, s1, s2, s3, s4, s5, s6, s7, s8, s9, s10, s11, s12, s13, s14, s15⟩
    go_simp
    with_reducible rfl
  rotate_left
  · simp only [Act.put, List.setIfInBounds_toArray, List.set_cons_zero, List.set_cons_succ, i64_w, i32_w]
    rfl
  refine one_ (i := 1) (N := some 7) #[true, true, true, false, false, false, false, false, false, false, false] rfl rfl (by kernel_rfl) (by decide) (fun K hK => ?_)
  refine goes_ Tryd.func9 (by kernel_rfl) rfl #[.agg #[.slice q.B0 p.l0.length q.e0, .slice q.B1 p.l1.length q.e1, .slice q.B2 p.l2.length q.e2, .int .i64 p.h, .int .i64 p.c, .int .i64 p.s, .int .i64 p.st, .slice q.B7 p.ds.length q.e7]] (by rfl) rfl rfl (by simp only [List.map_toArray, List.map_cons, List.map_nil]; rfl) ?_
  with_reducible refine (can_calls ((HQ3.out.below D0.out).rp (HP.out.below HD0.out.B)) (LK.out.below HD0.out.B) HP.out.ds_mem).mono ?_
  rintro e V1 ⟨rfl, k1⟩
  refine ⟨_, rfl, ?_⟩
  rw [← HR.out]
  have D1 := Aside0.mk (below_then D0.out D0.out.size k1)
  have HD1 := Aside0.mk (HD0.out.below k1)
  clear k1
  refine hK.out _ _ ⟨(HD1.out.cell 0 rfl 0), (HD1.out.cell 0 rfl 1), (HD1.out.cell 0 rfl 2), (HD1.out.cell 0 rfl 3), (HD1.out.cell 0 rfl 4), (HD1.out.cell 0 rfl 5), (HD1.out.cell 0 rfl 6), (HD1.out.cell 0 rfl 7), (HD1.out.cell 1 rfl 0), (HD1.out.cell 1 rfl 1), (HD1.out.cell 1 rfl 2), (HD1.out.cell 1 rfl 3), (HD1.out.cell 1 rfl 4), (HD1.out.cell 1 rfl 5), (HD1.out.cell 1 rfl 6), (HD1.out.cell 1 rfl 7)⟩ (fun hHeld => ?_)
  clear hK K
  refine norm_ (a' := ?_) ?_ ?_
  rotate_left
  · show Act.put _ (some 7) _ = _
    simp only [Act.put, List.setIfInBounds_toArray, List.set_cons_zero, List.set_cons_succ, i64_w, i32_w]
    rfl
  refine one_ (i := 3) (N := some 9) #[true, true, true, true, false, false, false, false, false, false, false] rfl rfl (by kernel_rfl) (by decide) (fun K hK => ?_)
  refine goes_ Tryd.func10 (by kernel_rfl) rfl #[.agg #[.slice p.A0 p.l0.length p.c0, .slice p.A1 p.l1.length p.c1, .slice p.A2 p.l2.length p.c2, .int .i64 p.h, .int .i64 p.c, .int .i64 p.s, .int .i64 p.st, .slice p.A3 p.ds.length p.c3]] (by rfl) rfl rfl (by simp only [List.map_toArray, List.map_cons, List.map_nil]; rfl) ?_
  with_reducible refine (canr_calls (HP.out.below HD1.out.B).rp ZB.out (LR.out.below HD1.out.B) HP.out.ds_mem).mono ?_
  rintro e V2 ⟨rfl, k2⟩
  refine ⟨_, rfl, ?_⟩
  rw [← HR.out]
  have D2 := Aside0.mk (below_then D1.out D1.out.size k2)
  have HD2 := Aside0.mk (HD1.out.below k2)
  clear k2
  refine hK.out _ _ ⟨(HD2.out.cell 0 rfl 0), (HD2.out.cell 0 rfl 1), (HD2.out.cell 0 rfl 2), (HD2.out.cell 0 rfl 3), (HD2.out.cell 0 rfl 4), (HD2.out.cell 0 rfl 5), (HD2.out.cell 0 rfl 6), (HD2.out.cell 0 rfl 7), (HD2.out.cell 1 rfl 0), (HD2.out.cell 1 rfl 1), (HD2.out.cell 1 rfl 2), (HD2.out.cell 1 rfl 3), (HD2.out.cell 1 rfl 4), (HD2.out.cell 1 rfl 5), (HD2.out.cell 1 rfl 6), (HD2.out.cell 1 rfl 7)⟩ (fun hHeld => ?_)
  clear hK K
  refine norm_ (a' := ?_) ?_ ?_
  rotate_left
  · show Act.put _ (some 9) _ = _
    simp only [Act.put, List.setIfInBounds_toArray, List.set_cons_zero, List.set_cons_succ, i64_w, i32_w]
    rfl
  refine pure_ (i := 4) (N := some 10) (v := ?_) (a' := ?_) #[true, true, true, true, true, false, false, false, false, false, false] rfl rfl (by kernel_rfl) (fun _ _ _ h => h) (Or.inl ⟨by rfl, ?_⟩) ?_ ?_
  rotate_left
  · intro w'
    go_simp
    with_reducible rfl
  rotate_left
  · simp only [Act.put, List.setIfInBounds_toArray, List.set_cons_zero, List.set_cons_succ, i64_w, i32_w]
    rfl
  refine pure_ (i := 5) (N := some 11) (v := ?_) (a' := ?_) #[true, true, true, true, true, true, false, false, false, false, false] rfl rfl (by kernel_rfl) (fun _ _ _ h => h) (Or.inl ⟨by rfl, ?_⟩) ?_ ?_
  rotate_left
  · intro w'
    go_simp
    with_reducible rfl
  rotate_left
  · simp only [Act.put, List.setIfInBounds_toArray, List.set_cons_zero, List.set_cons_succ, i64_w, i32_w]
    rfl
  refine take_ (i := 6) (N := some 12) (v := ?_) (a' := ?_) #[true, true, true, true, true, true, true, false, false, false, false] rfl rfl (by kernel_rfl) (fun _ _ _ h => h) (Or.inl ⟨by rfl, ?_⟩) hHeld ?_ ?_
  rotate_left
  · rintro w' ⟨s0, s1, s2, s3, s4, s5, s6, s7, s8, s9, s10, s11, s12, s13, s14, s15⟩
    go_simp
    with_reducible rfl
  rotate_left
  · simp only [Act.put, List.setIfInBounds_toArray, List.set_cons_zero, List.set_cons_succ, i64_w, i32_w]
    rfl
  refine take_ (i := 7) (N := some 13) (v := ?_) (a' := ?_) #[true, true, true, true, true, true, true, true, false, false, false] rfl rfl (by kernel_rfl) (fun _ _ _ h => h) (Or.inl ⟨by rfl, ?_⟩) hHeld ?_ ?_
  rotate_left
  · rintro w' ⟨s0, s1, s2, s3, s4, s5, s6, s7, s8, s9, s10, s11, s12, s13, s14, s15⟩
    go_simp
    with_reducible rfl
  rotate_left
  · simp only [Act.put, List.setIfInBounds_toArray, List.set_cons_zero, List.set_cons_succ, i64_w, i32_w]
    rfl
  refine one_ (i := 8) (N := some 14) #[true, true, true, true, true, true, true, true, true, false, false] rfl rfl (by kernel_rfl) (by decide) (fun K hK => ?_)
  refine goes_ Tryd.func11 (by kernel_rfl) rfl #[.agg #[.slice q.B0 p.l0.length q.e0, .slice q.B1 p.l1.length q.e1, .slice q.B2 p.l2.length q.e2, .int .i64 p.h, .int .i64 p.c, .int .i64 p.s, .int .i64 p.st, .slice q.B7 p.ds.length q.e7], .agg #[.slice p.A0 p.l0.length p.c0, .slice p.A1 p.l1.length p.c1, .slice p.A2 p.l2.length p.c2, .int .i64 p.h, .int .i64 p.c, .int .i64 p.s, .int .i64 p.st, .slice p.A3 p.ds.length p.c3]] (by rfl) rfl rfl (by simp only [List.map_toArray, List.map_cons, List.map_nil]; rfl) ?_
  with_reducible refine (intact_calls p q _ (HP.out.below HD2.out.B) (HQ3.out.below D2.out)).mono ?_
  rintro e V3 ⟨rfl, k3⟩
  refine ⟨_, rfl, ?_⟩
  have HD3 := Aside0.mk (HD2.out.below k3)
  clear k3
  refine hK.out _ _ ⟨(HD3.out.cell 0 rfl 0), (HD3.out.cell 0 rfl 1), (HD3.out.cell 0 rfl 2), (HD3.out.cell 0 rfl 3), (HD3.out.cell 0 rfl 4), (HD3.out.cell 0 rfl 5), (HD3.out.cell 0 rfl 6), (HD3.out.cell 0 rfl 7), (HD3.out.cell 1 rfl 0), (HD3.out.cell 1 rfl 1), (HD3.out.cell 1 rfl 2), (HD3.out.cell 1 rfl 3), (HD3.out.cell 1 rfl 4), (HD3.out.cell 1 rfl 5), (HD3.out.cell 1 rfl 6), (HD3.out.cell 1 rfl 7)⟩ (fun hHeld => ?_)
  clear hK K
  refine norm_ (a' := ?_) ?_ ?_
  rotate_left
  · show Act.put _ (some 14) _ = _
    simp only [Act.put, List.setIfInBounds_toArray, List.set_cons_zero, List.set_cons_succ, i64_w, i32_w]
    rfl
  refine pure_ (i := 9) (N := some 15) (v := ?_) (a' := ?_) #[true, true, true, true, true, true, true, true, true, true, false] rfl rfl (by kernel_rfl) (fun _ _ _ h => h) (Or.inl ⟨by rfl, ?_⟩) ?_ ?_
  rotate_left
  · intro w'
    go_simp
    with_reducible rfl
  rotate_left
  · simp only [Act.put, List.setIfInBounds_toArray, List.set_cons_zero, List.set_cons_succ, i64_w, i32_w]
    rfl
  refine pure_ (i := 10) (N := some 2) (v := ?_) (a' := ?_) #[true, true, true, true, true, true, true, true, true, true, true] rfl rfl (by kernel_rfl) (fun _ _ _ h => h) (Or.inl ⟨by rfl, ?_⟩) ?_ ?_
  rotate_left
  · intro w'
    go_simp
    with_reducible rfl
  rotate_left
  · simp only [Act.put, List.setIfInBounds_toArray, List.set_cons_zero, List.set_cons_succ, i64_w, i32_w]
    rfl
  refine done_ (by kernel_rfl) ?_
  go_wp2
  go_ret
  exact ⟨rfl, HD3.out.B⟩
end LawW
end Go.Proofs.YtmhndfnmdkeiaaaDoor
