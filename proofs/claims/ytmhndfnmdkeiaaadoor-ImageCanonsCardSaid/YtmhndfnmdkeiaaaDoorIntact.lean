/- The look at a program's copy: of a copy that is as it was the answer is yes. No condition beyond the lists' lengths. -/
import Derived.Test.YtmhndfnmdkeiaaaDoorPEqualx
import Derived.Test.YtmhndfnmdkeiaaaDoorRefEq
import Derived.Test.YtmhndfnmdkeiaaaDoorOwn
namespace Go.Proofs.YtmhndfnmdkeiaaaDoor
open Go.RowKit Go.Proofs.YtmhndfnmdkeiaaaDoorW.PrintWords Go.Proofs.YtmhndfnmdkeiaaaDoorW.PrintLast Go.Proofs.YtmhndfnmdkeiaaaDoorW.PrintMore
open PEqual KitW EqW RefEq OwnW
namespace IntactW
set_option linter.unusedVariables false
set_option linter.unusedSimpArgs false
attribute [local go_sem] max2_int min2_int max_two min_two max_three min_three max_four min_four

theorem C_prefix {α : Type} {d : Kd α} {w : World} {A : Option Addr} {n : Nat} {l : List α} {z : α} (hn : l.length = n) (h : d.C w A (n + 1) (l ++ [z])) : d.C w A n l := by
  obtain ⟨h1, h2, h3⟩ := h
  refine ⟨hn, by omega, fun hp => ?_⟩
  obtain ⟨ad, e, hc⟩ := h3 (by omega)
  refine ⟨ad, e, fun j p hj => hc j p ?_⟩
  rw [List.getElem?_append_left (List.getElem?_eq_some_iff.1 hj).1]
  exact hj
theorem reads_map {α β : Type} {R : α → List Value → Prop} {R' : β → List Value → Prop} {sz : Nat} {w : World} {A : Option Addr} {n : Nat} {l : List α} (f : α → β) (hR : ∀ x cs, R x cs → R' (f x) cs) (h : ReadsRow R sz w A n l) : ReadsRow R' sz w A n (l.map f) := by
  obtain ⟨h1, h2, h3⟩ := h
  refine ⟨by rw [List.length_map]; exact h1, h2, fun hp => ?_⟩
  obtain ⟨ad, e, hc⟩ := h3 hp
  refine ⟨ad, e, fun j p hj => ?_⟩
  rw [List.getElem?_map] at hj
  obtain ⟨q, hq, rfl⟩ := Option.map_eq_some_iff.1 hj
  obtain ⟨c, hs, hr, hcell⟩ := hc j q hq
  exact ⟨c, hs, hR _ _ hr, hcell⟩
def conv (x : Int × Option (List S56)) : S54 := ⟨x.1, x.2.getD []⟩
theorem seg_k {w : World} (x : Int × Option (List S56)) (cs : List Value) (h : segR w x cs) : k54.K w (conv x) cs := by
  obtain ⟨v, rfl, hv⟩ := h
  obtain ⟨A, c, rfl, hl, hc⟩ := nrd.slice hv
  exact k54_mk w (conv x) hl hc
theorem tail_nil {α : Type} {e : Nat} {d : Kd α} {z : α} {w : World} {v : Value} {x : Option (List α)} (h : (tail e d z).K w x [v]) : ∃ A c, v = .slice A (x.getD []).length c ∧ (x.getD []).length ≤ c ∧ d.C w A (x.getD []).length (x.getD []) := by
  cases x with
  | none => injection (h : [v] = [.slice none 0 0]) with h; exact ⟨none, 0, h, Nat.le_refl _, rfl, by simp, fun hn => absurd hn (by simp)⟩
  | some l =>
    obtain ⟨A, c, h, hl, hc⟩ := h
    injection h with h
    exact ⟨some A, c, h, by simp; omega, C_prefix rfl hc⟩
abbrev kseg : Kd (Int × Option (List S56)) := Kd.pair (Kd.int .i64) (tail 56 k56 mark33)
theorem kseg_k {w : World} (x : Int × Option (List S56)) (cs : List Value) (h : kseg.K w x cs) : k54.K w (conv x) cs := by
  obtain ⟨c0, c1, rfl, rfl, h1⟩ := h
  have hl : c1.length = 1 := (tail 56 k56 mark33).K_len h1
  obtain ⟨v, rfl⟩ : ∃ v, c1 = [v] := List.length_eq_one_iff.1 hl
  obtain ⟨A, c, rfl, hl, hc⟩ := tail_nil h1
  exact k54_mk w (conv x) hl hc
theorem nl_getD {α : Type} {A : Option Addr} {l : List α} (h : A = none → l.length = 0) : (nl A l).getD [] = l := by
  cases A with
  | none => exact (List.eq_nil_of_length_eq_zero (h rfl)).symm
  | some a => rfl
theorem same_refl (n0 c0 : List ByteArray) (p0 : List Int) (h0 e0 s0 t0 : Int) (d0 : List S54) : same n0 c0 p0 h0 e0 s0 t0 d0 n0 c0 p0 h0 e0 s0 t0 d0 = true := by unfold same fin; simp

set_option maxRecDepth 100000 in
set_option maxHeartbeats 4000000 in
theorem intact_walk (A0 : Option Addr) (c0 : Nat) (A1 : Option Addr) (c1 : Nat) (A2 : Option Addr) (c2 : Nat) (h c s st : Int) (A3 : Option Addr) (c3 : Nat)
    (B0 : Option Addr) (m0 e0 : Nat) (B1 : Option Addr) (m1 e1 : Nat) (B2 : Option Addr) (m2 e2 : Nat) (B7 : Option Addr) (m7 e7 : Nat) (w : World)
    (l0 l1 : List ByteArray) (l2 : List Int) (ds : List (Int × Option (List S56))) (hz0 : A0 = none → l0.length = 0) (hz1 : A1 = none → l1.length = 0) (hz2 : A2 = none → l2.length = 0)
    (hr0 : Kd.C Kd.string w A0 l0.length l0) (hr1 : Kd.C Kd.string w A1 l1.length l1) (hr2 : Kd.C (Kd.int .i64) w A2 l2.length l2) (hr3 : ReadsRow (segR w) 2 w A3 ds.length ds) (hc0 : l0.length ≤ c0) (hc1 : l1.length ≤ c1) (hc2 : l2.length ≤ c2) (hc3 : ds.length ≤ c3)
    (hq0 : (tail 9 Kd.string behind).K w (nl A0 l0) [.slice B0 m0 e0]) (hq1 : (tail 9 Kd.string behind).K w (nl A1 l1) [.slice B1 m1 e1]) (hq2 : (tail 3 (Kd.int .i64) (-4711)).K w (nl A2 l2) [.slice B2 m2 e2]) (hq3 : kseg.C w B7 m7 ds) (hm7 : m7 ≤ e7)
    (hmc : ∀ x ∈ ds, ∀ l, x.2 = some l → l.length ≤ 9223372036854775806) :
    Calls Tryd.prog 11 #[.agg #[.slice B0 m0 e0, .slice B1 m1 e1, .slice B2 m2 e2, .int .i64 h, .int .i64 c, .int .i64 s, .int .i64 st, .slice B7 m7 e7], .agg #[.slice A0 l0.length c0, .slice A1 l1.length c1, .slice A2 l2.length c2, .int .i64 h, .int .i64 c, .int .i64 s, .int .i64 st, .slice A3 ds.length c3]] w fun e w' => e = .returned (.bool true) ∧ Below w.heap.size w w' := by
  have g0 := nl_getD hz0
  have g1 := nl_getD hz1
  have g2 := nl_getD hz2
  obtain ⟨_, _, x0, y0, z0⟩ := tail_nil hq0
  obtain ⟨_, _, x1, y1, z1⟩ := tail_nil hq1
  obtain ⟨_, _, x2, y2, z2⟩ := tail_nil hq2
  injection x0 with x00 x01 x02
  injection x1 with x10 x11 x12
  injection x2 with x20 x21 x22
  subst x00 x02 x10 x12 x20 x22
  rw [g0] at x01 y0 z0
  rw [g1] at x11 y1 z1
  rw [g2] at x21 y2 z2
  clear g0 g1 g2
  have hd7 : ds.length = m7 := hq3.1
  have w3 : k54.C w A3 ds.length (ds.map conv) := reads_map conv seg_k hr3
  have z3 : k54.C w B7 m7 (ds.map conv) := reads_map conv kseg_k hq3
  subst x01 x11 x21 hd7
  have hml : ∀ i : Nat, ((ds.map conv).getD i z54).f1.length ≤ 9223372036854775807 := by
    intro i
    rw [List.getD_eq_getElem?_getD, List.getElem?_map]
    cases hx : ds[i]? with
    | none => simp [z54]
    | some x =>
      have hxm : x ∈ ds := List.mem_of_getElem? hx
      have := hmc x hxm
      obtain ⟨xd, xc⟩ := x
      cases xc with
      | none => simp [conv]
      | some l => have := this l rfl; simp [conv]; omega
  have hlm : (ds.map conv).length = ds.length := List.length_map _
  obtain ⟨kf, hkf⟩ := (equal_ev l0 l1 l2 h c s st (ds.map conv) l0 l1 l2 h c s st (ds.map conv) hr0.2.1 hr1.2.1 hr2.2.1 (by rw [hlm]; exact w3.2.1) hml).rounds
  rw [same_refl] at hkf
  have hee := fun (W : World) (hb : Below w.heap.size w W) => by
    have := payoffref12_Equal.calls kf B0 e0 l0 B1 e1 l1 B2 e2 l2 h c s st B7 e7 (ds.map conv) A0 c0 l0 A1 c1 l1 A2 c2 l2 h c s st A3 c3 (ds.map conv) true W
      (Kd.C_below z0 hb) y0 (Kd.C_below z1 hb) y1 (Kd.C_below z2 hb) y2 (by rw [hlm]; exact Kd.C_below z3 hb) (by rw [hlm]; exact hm7)
      (Kd.C_below hr0 hb) hc0 (Kd.C_below hr1 hb) hc1 (Kd.C_below hr2 hb) hc2 (by rw [hlm]; exact Kd.C_below w3 hb) (by rw [hlm]; exact hc3) hkf
    rw [hlm] at this
    exact this
  have HE := Aside0.mk hee
  clear hee
  have HQ0 := Aside0.mk hq0
  have HQ1 := Aside0.mk hq1
  have HQ2 := Aside0.mk hq2
  have HQ3 := Aside0.mk hq3
  have HMC := Aside0.mk hmc
  have Hm0 : l0.length ≤ 9223372036854775807 := hr0.2.1
  have Hm1 : l1.length ≤ 9223372036854775807 := hr1.2.1
  have Hm2 : l2.length ≤ 9223372036854775807 := hr2.2.1
  have Hm3 : ds.length ≤ 9223372036854775807 := hr3.2.1
  clear hr0 hr1 hr2 hr3 hc0 hc1 hc2 hc3 hq0 hq1 hq2 hq3 hm7 hmc y0 y1 y2 z0 z1 z2 z3 w3 hml hkf hlm
  have HZ0 := Aside0.mk hz0
  have HZ1 := Aside0.mk hz1
  have HZ2 := Aside0.mk hz2
  clear hz0 hz1 hz2
  have HS := Aside0.mk (((St.start w).alloc #[.slice B0 l0.length e0, .slice B1 l1.length e1, .slice B2 l2.length e2, .int .i64 h, .int .i64 c, .int .i64 s, .int .i64 st, .slice B7 ds.length e7] 26).alloc #[.slice A0 l0.length c0, .slice A1 l1.length c1, .slice A2 l2.length c2, .int .i64 h, .int .i64 c, .int .i64 s, .int .i64 st, .slice A3 ds.length c3] 26)
  go_enter Tryd.func11, Tryd.ntmps11
  go_wp2_with (go_at_call 18; refine stop ?_)
  refine Stop.mk ?_
  have HS1 : Aside0 (St w _ [Box w.heap.size #[.slice B0 l0.length e0, .slice B1 l1.length e1, .slice B2 l2.length e2, .int .i64 h, .int .i64 c, .int .i64 s, .int .i64 st, .slice B7 ds.length e7] 26, Box (w.heap.size + 1) #[.slice A0 l0.length c0, .slice A1 l1.length c1, .slice A2 l2.length c2, .int .i64 h, .int .i64 c, .int .i64 s, .int .i64 st, .slice A3 ds.length c3] 26]) := ⟨by simpa using HS.out⟩
  refine (HE.out _ HS1.out.B).mono ?_
  rintro e W0 ⟨rfl, hb⟩
  have HS2 := Aside0.mk (HS1.out.below hb)
  clear hb HS HS1 HE
  have q0 : W0.cell? ⟨w.heap.size, 0, none⟩ = some (.slice B0 l0.length e0) := HS2.out.cell 0 rfl 0
  have q1 : W0.cell? ⟨w.heap.size, 1, none⟩ = some (.slice B1 l1.length e1) := HS2.out.cell 0 rfl 1
  have q2 : W0.cell? ⟨w.heap.size, 2, none⟩ = some (.slice B2 l2.length e2) := HS2.out.cell 0 rfl 2
  have q3 : W0.cell? ⟨w.heap.size, 3, none⟩ = some (.int .i64 h) := HS2.out.cell 0 rfl 3
  have q4 : W0.cell? ⟨w.heap.size, 4, none⟩ = some (.int .i64 c) := HS2.out.cell 0 rfl 4
  have q5 : W0.cell? ⟨w.heap.size, 5, none⟩ = some (.int .i64 s) := HS2.out.cell 0 rfl 5
  have q6 : W0.cell? ⟨w.heap.size, 6, none⟩ = some (.int .i64 st) := HS2.out.cell 0 rfl 6
  have q7 : W0.cell? ⟨w.heap.size, 7, none⟩ = some (.slice B7 ds.length e7) := HS2.out.cell 0 rfl 7
  have hn0 := fun W => run_neq_slice_nil_any (P := Tryd.prog) W 22 9 B0 l0.length e0 0 0 Tryd.underlying22
  have hn1 := fun W => run_neq_slice_nil_any (P := Tryd.prog) W 22 9 B1 l1.length e1 0 0 Tryd.underlying22
  have hn2 := fun W => run_neq_slice_nil_any (P := Tryd.prog) W 23 3 B2 l2.length e2 0 0 Tryd.underlying23
  go_upto_if 19 with (fail)
  go_cut [6] (fun _ wx => Aside0 (wx = W0))
  case first =>
    have hk := HQ0.out
    cases A0 with
    | none =>
      injection (hk : [Value.slice B0 l0.length e0] = [.slice none 0 0]) with hk1
      injection hk1 with hk2 hk3 hk4
      subst hk2
      clear hk3 hk4
      go_wp2
      go_meet
      case rel => exact ⟨rfl⟩
    | some aa =>
      obtain ⟨bb, cc, hk1, hk2, hk3⟩ := hk
      injection hk1 with hk1
      injection hk1 with hk4 hk5 hk6
      subst hk4 hk6
      obtain ⟨ad, cs, had, _, hK, hcells⟩ := Kd.C_get hk3 ByteArray.empty ((l0.length : Nat) : Int) (by omega) (by omega)
      cases had
      obtain rfl := hK
      have hcell0 : w.cell? (bb.add l0.length) = some (.string ⟨#[66, 101, 104, 105, 110, 100]⟩) := by
        have q := hcells 0 _ rfl
        have hz : (l0 ++ [behind]).getD l0.length ByteArray.empty = behind := by simp
        rw [Int.toNat_natCast, hz] at q
        have q2 : w.cell? (bb.add (l0.length * 1 + 0)) = _ := q
        rwa [Nat.mul_one, Nat.add_zero] at q2
      have hcell := pw_cell_below HS2.out.B hcell0
      have i1 : (0 : Int) ≤ ((l0.length : Nat) : Int) + 1 := by omega
      have i2 : ((l0.length : Nat) : Int) + 1 ≤ (e0 : Int) := by omega
      have i3 : (0 : Int) ≤ ((l0.length : Nat) : Int) := by omega
      have i4 : ((l0.length : Nat) : Int) < ((l0.length : Nat) : Int) + 1 := by omega
      have hm : l0.length ≤ 9223372036854775806 := by have := hk3.2.1; omega
      clear hcells hcell0 hk2 hk3 hk5
      go_wp2
      go_meet
      case rel => exact ⟨rfl⟩
  case rest =>
  rw [hcut.out]
  clear hcut hn0
  go_upto_if 36 with (fail)
  go_cut [7] (fun _ wx => Aside0 (wx = W0))
  case first =>
    have hk := HQ1.out
    cases A1 with
    | none =>
      injection (hk : [Value.slice B1 l1.length e1] = [.slice none 0 0]) with hk1
      injection hk1 with hk2 hk3 hk4
      subst hk2
      clear hk3 hk4
      go_wp2
      go_meet
      case rel => exact ⟨rfl⟩
    | some aa =>
      obtain ⟨bb, cc, hk1, hk2, hk3⟩ := hk
      injection hk1 with hk1
      injection hk1 with hk4 hk5 hk6
      subst hk4 hk6
      obtain ⟨ad, cs, had, _, hK, hcells⟩ := Kd.C_get hk3 ByteArray.empty ((l1.length : Nat) : Int) (by omega) (by omega)
      cases had
      obtain rfl := hK
      have hcell0 : w.cell? (bb.add l1.length) = some (.string ⟨#[66, 101, 104, 105, 110, 100]⟩) := by
        have q := hcells 0 _ rfl
        have hz : (l1 ++ [behind]).getD l1.length ByteArray.empty = behind := by simp
        rw [Int.toNat_natCast, hz] at q
        have q2 : w.cell? (bb.add (l1.length * 1 + 0)) = _ := q
        rwa [Nat.mul_one, Nat.add_zero] at q2
      have hcell := pw_cell_below HS2.out.B hcell0
      have i1 : (0 : Int) ≤ ((l1.length : Nat) : Int) + 1 := by omega
      have i2 : ((l1.length : Nat) : Int) + 1 ≤ (e1 : Int) := by omega
      have i3 : (0 : Int) ≤ ((l1.length : Nat) : Int) := by omega
      have i4 : ((l1.length : Nat) : Int) < ((l1.length : Nat) : Int) + 1 := by omega
      have hm : l1.length ≤ 9223372036854775806 := by have := hk3.2.1; omega
      clear hcells hcell0 hk2 hk3 hk5
      go_wp2
      go_meet
      case rel => exact ⟨rfl⟩
  case rest =>
  rw [hcut.out]
  clear hcut hn1
  go_upto_if 53 with (fail)
  go_cut [8] (fun _ wx => Aside0 (wx = W0))
  case first =>
    have hk := HQ2.out
    cases A2 with
    | none =>
      injection (hk : [Value.slice B2 l2.length e2] = [.slice none 0 0]) with hk1
      injection hk1 with hk2 hk3 hk4
      subst hk2
      clear hk3 hk4
      go_wp2
      go_meet
      case rel => exact ⟨rfl⟩
    | some aa =>
      obtain ⟨bb, cc, hk1, hk2, hk3⟩ := hk
      injection hk1 with hk1
      injection hk1 with hk4 hk5 hk6
      subst hk4 hk6
      obtain ⟨ad, cs, had, _, hK, hcells⟩ := Kd.C_get hk3 (0 : Int) ((l2.length : Nat) : Int) (by omega) (by omega)
      cases had
      obtain rfl := hK
      have hcell0 : w.cell? (bb.add l2.length) = some (.int .i64 (-4711)) := by
        have q := hcells 0 _ rfl
        have hz : (l2 ++ [(-4711 : Int)]).getD l2.length (0 : Int) = -4711 := by simp
        rw [Int.toNat_natCast, hz] at q
        have q2 : w.cell? (bb.add (l2.length * 1 + 0)) = _ := q
        rwa [Nat.mul_one, Nat.add_zero] at q2
      have hcell := pw_cell_below HS2.out.B hcell0
      have i1 : (0 : Int) ≤ ((l2.length : Nat) : Int) + 1 := by omega
      have i2 : ((l2.length : Nat) : Int) + 1 ≤ (e2 : Int) := by omega
      have i3 : (0 : Int) ≤ ((l2.length : Nat) : Int) := by omega
      have i4 : ((l2.length : Nat) : Int) < ((l2.length : Nat) : Int) + 1 := by omega
      have hm : l2.length ≤ 9223372036854775806 := by have := hk3.2.1; omega
      clear hcells hcell0 hk2 hk3 hk5
      go_wp2
      go_meet
      case rel => exact ⟨rfl⟩
  case rest =>
  rw [hcut.out]
  clear hcut hn2
  go_wp2
  go_loopg [9, 10, 11] ds.length (fun d i _ _ W => ∃ k : Nat, k + d = ds.length ∧ i = .int .i64 (k : Int) ∧ Aside0 (W = W0))
  case atStart => exact ⟨0, by omega, rfl, ⟨rfl⟩⟩
  case round =>
    obtain ⟨k, hk, rfl, hwr⟩ := hrel
    have hwr2 := hwr.out
    rw [hwr2]
    clear hwr hwr2
    by_cases hlt : k < ds.length
    · obtain ⟨ad, cs, had, hcl, hK, hcells⟩ := Kd.C_get HQ3.out (0, none) (k : Int) (by omega) (by omega)
      cases had
      rw [Int.toNat_natCast] at hcells hK
      obtain ⟨c0', c1', hcs, hc00, h1⟩ := hK
      have hl1 : c1'.length = 1 := (tail 56 k56 mark33).K_len h1
      obtain ⟨vk, rfl⟩ : ∃ v, c1' = [v] := List.length_eq_one_iff.1 hl1
      have hc01 : c0' = [.int .i64 (ds.getD k (0, none)).1] := hc00
      subst hc01
      subst hcs
      have g1 : w.cell? ⟨(ad.add (k * 2)).block, (ad.add (k * 2)).off + 1, none⟩ = some vk := by rw [← add_field _ _ 1 (by omega)]; exact hcells 1 _ rfl
      have hxm : ds.getD k (0, none) ∈ ds := by rw [List.getD_eq_getElem?_getD, List.getElem?_eq_getElem hlt]; exact List.getElem_mem _
      have hmx := HMC.out _ hxm
      have i1 : (0 : Int) ≤ (k : Int) := by omega
      have i2 : (k : Int) < ((ds.length : Nat) : Int) := by omega
      replace g1 := pw_cell_below HS2.out.B g1
      obtain ⟨x, hx⟩ : ∃ x, x = (ds.getD k (0, none)).2 := ⟨_, rfl⟩
      replace h1 : (tail 56 k56 mark33).K w x [vk] := by rw [hx]; exact h1
      rw [← hx] at hmx
      clear hx hxm hcells hcl hl1
      cases x with
      | none =>
        injection (h1 : [vk] = [.slice none 0 0]) with hv
        subst hv
        have hnn := fun W => run_neq_slice_nil_any (P := Tryd.prog) W 52 56 none 0 0 0 0 Tryd.underlying52
        clear hmx
        go_wp2
        go_roundg (gk - 1)
        case measure => omega
        case rel => exact ⟨k + 1, by omega, by go_num, ⟨rfl⟩⟩
      | some l =>
        obtain ⟨bb, cc, hk1, hk2, hk3⟩ := h1
        injection hk1 with hk1
        subst hk1
        have hm := hmx l rfl
        clear hmx
        obtain ⟨_, had2, g20, _, _⟩ := at_T56 hk3 ((l.length : Nat) : Int) (by omega) (by omega)
        cases had2
        rw [Int.toNat_natCast, show (rd_T56 (l ++ [mark33]) ((l.length : Nat) : Int)).f0 = -4711 from by simp [rd_T56, mark33]] at g20
        replace g20 := pw_cell_below HS2.out.B g20
        have j1 : (0 : Int) ≤ ((l.length : Nat) : Int) + 1 := by omega
        have j2 : ((l.length : Nat) : Int) + 1 ≤ (cc : Int) := by omega
        have j3 : (0 : Int) ≤ ((l.length : Nat) : Int) := by omega
        have j4 : ((l.length : Nat) : Int) < ((l.length : Nat) : Int) + 1 := by omega
        have hnn := fun W => run_neq_slice_nil_any (P := Tryd.prog) W 52 56 (some bb) l.length cc 0 0 Tryd.underlying52
        clear hk2 hk3
        go_wp2
        go_roundg (gk - 1)
        case measure => omega
        case rel => exact ⟨k + 1, by omega, by go_num, ⟨rfl⟩⟩
    · have hlt2 : ¬ ((k : Int) < ((ds.length : Nat) : Int)) := by omega
      go_wp2
      go_ret
      exact ⟨rfl, HS2.out.B⟩
end IntactW
end Go.Proofs.YtmhndfnmdkeiaaaDoor
