/- The tables of instructions, Valid, bound, and what an instruction and a day name: walked. No condition beyond the tables as they are laid. -/
import Derived.Test.YtmhndfnmdkeiaaaDoorCb
import Derived.Outline
import Derived.Test.YtmhndfnmdkeiaaaDoorPEqualx0
namespace Go.Proofs.YtmhndfnmdkeiaaaDoor
open Go.RowKit Go.Proofs.YtmhndfnmdkeiaaaDoorW.PrintWords Go.Proofs.YtmhndfnmdkeiaaaDoorW.PrintLast Go.Proofs.YtmhndfnmdkeiaaaDoorW.PrintMore
open KitW
namespace Cn
set_option linter.unusedSimpArgs false
set_option linter.unusedVariables false
attribute [local go_sem] max2_int min2_int max_two min_two max_three min_three max_four min_four

def kNl : List ByteArray := [⟨#[101, 110, 100]⟩, ⟨#[99, 111, 110, 115, 116]⟩, ⟨#[98, 111, 111, 108]⟩, ⟨#[111, 98, 115]⟩, ⟨#[108, 111, 97, 100]⟩, ⟨#[115, 116, 111, 114, 101]⟩, ⟨#[107, 101, 101, 112]⟩, ⟨#[103, 101, 116]⟩, ⟨#[100, 114, 111, 112]⟩, ⟨#[97, 100, 100]⟩, ⟨#[115, 117, 98]⟩, ⟨#[109, 117, 108]⟩, ⟨#[110, 101, 103]⟩, ⟨#[100, 105, 118]⟩, ⟨#[109, 111, 100]⟩, ⟨#[97, 98, 115]⟩, ⟨#[109, 105, 110]⟩, ⟨#[109, 97, 120]⟩, ⟨#[114, 97, 116, 105, 111]⟩, ⟨#[108, 116]⟩, ⟨#[108, 101]⟩, ⟨#[103, 116]⟩, ⟨#[103, 101]⟩, ⟨#[101, 113]⟩, ⟨#[110, 101]⟩, ⟨#[110, 111, 116]⟩, ⟨#[106, 117, 109, 112]⟩, ⟨#[122, 101, 114, 111]⟩, ⟨#[102, 108, 111, 119]⟩]
def kN (i : Int) : ByteArray := if kn i then kNl.getD i.toNat ⟨#[]⟩ else ⟨#[]⟩
def kOl : List Int := [0, 1, 1, 2, 1, 1, 1, 1, 0, 0, 0, 0, 0, 0, 0, 0, 0, 0, 1, 0, 0, 0, 0, 0, 0, 0, 1, 1, 1]
def kO (i : Int) : Int := if kn i then kOl.getD i.toNat 0 else 0
def kAl : List Int := [0, 16383, 1, 63, 32767, 32767, 16383, 16383, 0, 0, 0, 0, 0, 0, 0, 0, 0, 0, 4, 0, 0, 0, 0, 0, 0, 0, 262143, 262143, 4095]
def kA (i : Int) : Int := if kn i then kAl.getD i.toNat 0 else 0
def kBl : List Int := [0, 0, 0, 3660, 0, 0, 0, 0, 0, 0, 0, 0, 0, 0, 0, 0, 0, 0, 0, 0, 0, 0, 0, 0, 0, 0, 0, 0, 0]
def kB (i : Int) : Int := if kn i then kBl.getD i.toNat 0 else 0
def kTl : List Int := [0, 0, 0, 0, 0, 1, 1, 0, 1, 2, 2, 2, 1, 2, 2, 1, 2, 2, 3, 2, 2, 2, 2, 2, 2, 1, 0, 1, 1]
def kT (i : Int) : Int := if kn i then kTl.getD i.toNat 0 else 0
def kPl : List Int := [0, 1, 1, 1, 1, 0, 1, 1, 0, 1, 1, 1, 1, 1, 1, 1, 1, 1, 1, 1, 1, 1, 1, 1, 1, 1, 0, 0, 0]
def kP (i : Int) : Int := if kn i then kPl.getD i.toNat 0 else 0
def rNl : List ByteArray := [⟨#[101, 110, 100]⟩, ⟨#[99, 111, 110, 115, 116]⟩, ⟨#[98, 111, 111, 108]⟩, ⟨#[111, 98, 115]⟩, ⟨#[108, 111, 97, 100]⟩, ⟨#[115, 116, 111, 114, 101]⟩, ⟨#[107, 101, 101, 112]⟩, ⟨#[103, 101, 116]⟩, ⟨#[100, 114, 111, 112]⟩, ⟨#[97, 100, 100]⟩, ⟨#[115, 117, 98]⟩, ⟨#[109, 117, 108]⟩, ⟨#[110, 101, 103]⟩, ⟨#[100, 105, 118]⟩, ⟨#[109, 111, 100]⟩, ⟨#[97, 98, 115]⟩, ⟨#[109, 105, 110]⟩, ⟨#[109, 97, 120]⟩, ⟨#[114, 97, 116, 105, 111]⟩, ⟨#[108, 116]⟩, ⟨#[108, 101]⟩, ⟨#[103, 116]⟩, ⟨#[103, 101]⟩, ⟨#[101, 113]⟩, ⟨#[110, 101]⟩, ⟨#[110, 111, 116]⟩, ⟨#[106, 117, 109, 112]⟩, ⟨#[122, 101, 114, 111]⟩, ⟨#[102, 108, 111, 119]⟩]
def rN (i : Int) : ByteArray := if kn i then rNl.getD i.toNat ⟨#[]⟩ else ⟨#[]⟩
def rAl : List Int := [-1, 16383, 1, 63, 32767, 32767, 16383, 16383, -1, -1, -1, -1, -1, -1, -1, -1, -1, -1, 4, -1, -1, -1, -1, -1, -1, -1, 262143, 262143, 4095]
def rA (i : Int) : Int := if kn i then rAl.getD i.toNat 0 else 0
def rBl : List Int := [-1, -1, -1, 3660, -1, -1, -1, -1, -1, -1, -1, -1, -1, -1, -1, -1, -1, -1, -1, -1, -1, -1, -1, -1, -1, -1, -1, -1, -1]
def rB (i : Int) : Int := if kn i then rBl.getD i.toNat 0 else 0
def rTl : List Int := [0, 0, 0, 0, 0, 1, 1, 0, 1, 2, 2, 2, 1, 2, 2, 1, 2, 2, 3, 2, 2, 2, 2, 2, 2, 1, 0, 1, 1]
def rT (i : Int) : Int := if kn i then rTl.getD i.toNat 0 else 0
def rPl : List Int := [0, 1, 1, 1, 1, 0, 1, 1, 0, 1, 1, 1, 1, 1, 1, 1, 1, 1, 1, 1, 1, 1, 1, 1, 1, 1, 0, 0, 0]
def rP (i : Int) : Int := if kn i then rPl.getD i.toNat 0 else 0
structure Lk (w : World) : Prop where
  c0 : ∀ i : Int, 0 ≤ i → i < 29 → w.cell? ⟨0, i.toNat * 6, none⟩ = some (.string (kN i))
  c1 : ∀ i : Int, 0 ≤ i → i < 29 → w.cell? ⟨0, i.toNat * 6 + 1, none⟩ = some (.int .i64 (kO i))
  c2 : ∀ i : Int, 0 ≤ i → i < 29 → w.cell? ⟨0, i.toNat * 6 + 2, none⟩ = some (.int .i64 (kA i))
  c3 : ∀ i : Int, 0 ≤ i → i < 29 → w.cell? ⟨0, i.toNat * 6 + 3, none⟩ = some (.int .i64 (kB i))
  c4 : ∀ i : Int, 0 ≤ i → i < 29 → w.cell? ⟨0, i.toNat * 6 + 4, none⟩ = some (.int .i64 (kT i))
  c5 : ∀ i : Int, 0 ≤ i → i < 29 → w.cell? ⟨0, i.toNat * 6 + 5, none⟩ = some (.int .i64 (kP i))
theorem Lk.below {w W : World} (h : Lk w) (hb : Below w.heap.size w W) : Lk W :=
  ⟨fun i h0 h1 => pw_cell_below hb (h.c0 i h0 h1), fun i h0 h1 => pw_cell_below hb (h.c1 i h0 h1), fun i h0 h1 => pw_cell_below hb (h.c2 i h0 h1), fun i h0 h1 => pw_cell_below hb (h.c3 i h0 h1), fun i h0 h1 => pw_cell_below hb (h.c4 i h0 h1), fun i h0 h1 => pw_cell_below hb (h.c5 i h0 h1)⟩
structure Lr (w : World) : Prop where
  c0 : ∀ i : Int, 0 ≤ i → i < 29 → w.cell? ⟨1, i.toNat * 5, none⟩ = some (.string (rN i))
  c1 : ∀ i : Int, 0 ≤ i → i < 29 → w.cell? ⟨1, i.toNat * 5 + 1, none⟩ = some (.int .i64 (rA i))
  c2 : ∀ i : Int, 0 ≤ i → i < 29 → w.cell? ⟨1, i.toNat * 5 + 2, none⟩ = some (.int .i64 (rB i))
  c3 : ∀ i : Int, 0 ≤ i → i < 29 → w.cell? ⟨1, i.toNat * 5 + 3, none⟩ = some (.int .i64 (rT i))
  c4 : ∀ i : Int, 0 ≤ i → i < 29 → w.cell? ⟨1, i.toNat * 5 + 4, none⟩ = some (.int .i64 (rP i))
theorem Lr.below {w W : World} (h : Lr w) (hb : Below w.heap.size w W) : Lr W :=
  ⟨fun i h0 h1 => pw_cell_below hb (h.c0 i h0 h1), fun i h0 h1 => pw_cell_below hb (h.c1 i h0 h1), fun i h0 h1 => pw_cell_below hb (h.c2 i h0 h1), fun i h0 h1 => pw_cell_below hb (h.c3 i h0 h1), fun i h0 h1 => pw_cell_below hb (h.c4 i h0 h1)⟩
theorem kn_le {op : Int} (h : kn op = true) : 0 ≤ op := by simp [kn] at h; omega
theorem kn_lt {op : Int} (h : kn op = true) : op < 29 := by simp [kn] at h; omega
def vl (op a b : Int) : Bool := kn op && wi a (kA op) && wi b (kB op)
def vr (op a b : Int) : Int := if vl op a b then 0 else 111
def rE (op : Int) : Int := if kn op then 0 else 111
set_option maxRecDepth 100000 in
set_option maxHeartbeats 4000000 in
theorem valid_calls (op a b : Int) (w : World) (lk : Lk w) : Calls Tryd.prog 51 #[.agg #[.int .i64 op, .int .i64 a, .int .i64 b]] w fun e w' => e = .returned (.int .i64 (vr op a b)) ∧ Below w.heap.size w w' := by
  have LK := Aside0.mk lk
  clear lk
  have HS0 := Aside0.mk (St.start w)
  go_enter Tryd.func51, Tryd.ntmps51
  go_upto_region 1 with (fail)
  obtain ⟨W1_, hW3_⟩ : ∃ W, W = (w.alloc (.cells #[.int .i64 op, .int .i64 a, .int .i64 b] 56 (0, 0))) := ⟨_, rfl⟩
  obtain ⟨g4_, hg5_⟩ : ∃ g, g = w.heap.size := ⟨_, rfl⟩
  have HS2_ : Aside0 (KitW.St w W1_ [Box g4_ #[.int .i64 op, .int .i64 a, .int .i64 b] 56]) := by rw [hW3_, hg5_]; exact ⟨by simpa using (HS0.out.allocF #[.int .i64 op, .int .i64 a, .int .i64 b] 56)⟩
  rw [← hW3_, ← hg5_]
  clear hW3_ hg5_ HS0
  by_cases c6_ : (kn op) = true
  ·
   have c6_A := Aside0.mk c6_
   clear c6_
   obtain ⟨q0_0, q0_1, q0_2, z0_0, z0_1, z0_2⟩ := HS2_.out.c3 0 rfl
   go_wp2_with (go_at_call 79; refine stop ?_)
   refine Stop.mk ?_
   refine (kn_calls op _).mono ?_
   rintro e W ⟨rfl, hw_⟩
   rw [hw_]
   clear hw_ W
   rw [c6_A.out]
   have hk0 := kn_le c6_A.out
   have hk1 := kn_lt c6_A.out
   have t7_0 := Aside0.mk (LK.out.c0 op (by omega) (by omega))
   have t7_1 := Aside0.mk (LK.out.c1 op (by omega) (by omega))
   have t7_2 := Aside0.mk (LK.out.c2 op (by omega) (by omega))
   have t7_3 := Aside0.mk (LK.out.c3 op (by omega) (by omega))
   have t7_4 := Aside0.mk (LK.out.c4 op (by omega) (by omega))
   have t7_5 := Aside0.mk (LK.out.c5 op (by omega) (by omega))
   clear q0_0 q0_1 q0_2 z0_0 z0_1 z0_2
   obtain ⟨q0_0, q0_1, q0_2, z0_0, z0_1, z0_2⟩ := HS2_.out.c3 0 rfl
   have qe0 : W1_.cell? ⟨0, op.toNat * 6, none⟩ = some (.string (kN op)) := pw_cell_below HS2_.out.B t7_0.out
   have qe1 : W1_.cell? ⟨0, op.toNat * 6 + 1, none⟩ = some (.int .i64 (kO op)) := pw_cell_below HS2_.out.B t7_1.out
   have qe2 : W1_.cell? ⟨0, op.toNat * 6 + 2, none⟩ = some (.int .i64 (kA op)) := pw_cell_below HS2_.out.B t7_2.out
   have qe3 : W1_.cell? ⟨0, op.toNat * 6 + 3, none⟩ = some (.int .i64 (kB op)) := pw_cell_below HS2_.out.B t7_3.out
   have qe4 : W1_.cell? ⟨0, op.toNat * 6 + 4, none⟩ = some (.int .i64 (kT op)) := pw_cell_below HS2_.out.B t7_4.out
   have qe5 : W1_.cell? ⟨0, op.toNat * 6 + 5, none⟩ = some (.int .i64 (kP op)) := pw_cell_below HS2_.out.B t7_5.out
   go_upto_region 4 with (fail)
   clear q0_0 q0_1 q0_2 z0_0 z0_1 z0_2 qe0 qe1 qe2 qe3 qe4 qe5
   obtain ⟨W8_, hW10_⟩ : ∃ W, W = (W1_.alloc (.cells #[.string (kN op), .int .i64 (kO op), .int .i64 (kA op), .int .i64 (kB op), .int .i64 (kT op), .int .i64 (kP op)] 130 (0, 0))) := ⟨_, rfl⟩
   obtain ⟨g11_, hg12_⟩ : ∃ g, g = W1_.heap.size := ⟨_, rfl⟩
   have HS9_ : Aside0 (KitW.St w W8_ [Box g11_ #[.string (kN op), .int .i64 (kO op), .int .i64 (kA op), .int .i64 (kB op), .int .i64 (kT op), .int .i64 (kP op)] 130, Box g4_ #[.int .i64 op, .int .i64 a, .int .i64 b] 56]) := by rw [hW10_, hg12_]; exact ⟨by simpa using (HS2_.out.allocF #[.string (kN op), .int .i64 (kO op), .int .i64 (kA op), .int .i64 (kB op), .int .i64 (kT op), .int .i64 (kP op)] 130)⟩
   rw [← hW10_, ← hg12_]
   clear hW10_ hg12_ HS2_
   by_cases c13_ : a < 0
   ·
    have c13_A := Aside0.mk c13_
    have c13_1 : decide (a < 0) = true := by simpa using c13_
    obtain ⟨q1_0, q1_1, q1_2, z1_0, z1_1, z1_2⟩ := HS9_.out.c3 1 rfl
    have qe0 : W8_.cell? ⟨0, op.toNat * 6, none⟩ = some (.string (kN op)) := pw_cell_below HS9_.out.B t7_0.out
    have qe1 : W8_.cell? ⟨0, op.toNat * 6 + 1, none⟩ = some (.int .i64 (kO op)) := pw_cell_below HS9_.out.B t7_1.out
    have qe2 : W8_.cell? ⟨0, op.toNat * 6 + 2, none⟩ = some (.int .i64 (kA op)) := pw_cell_below HS9_.out.B t7_2.out
    have qe3 : W8_.cell? ⟨0, op.toNat * 6 + 3, none⟩ = some (.int .i64 (kB op)) := pw_cell_below HS9_.out.B t7_3.out
    have qe4 : W8_.cell? ⟨0, op.toNat * 6 + 4, none⟩ = some (.int .i64 (kT op)) := pw_cell_below HS9_.out.B t7_4.out
    have qe5 : W8_.cell? ⟨0, op.toNat * 6 + 5, none⟩ = some (.int .i64 (kP op)) := pw_cell_below HS9_.out.B t7_5.out
    go_wp2
    go_ret
    exact ⟨by simp [vr, vl, wi, c6_A.out, c13_A.out, Int.not_le.2 c13_A.out], HS9_.out.B⟩
   ·
    have c13_1 : decide (a < 0) = false := by simpa using c13_
    have c13_2 : 0 ≤ a := by omega
    have c13_A := Aside0.mk c13_2
    clear c13_
    by_cases c14_ : (kA op) < a
    ·
     have c14_A := Aside0.mk c14_
     have c14_1 : decide ((kA op) < a) = true := by simpa using c14_
     obtain ⟨q0_0, q0_1, q0_2, q0_3, q0_4, q0_5, z0_0, z0_1, z0_2, z0_3, z0_4, z0_5⟩ := HS9_.out.c6 0 rfl
     obtain ⟨q1_0, q1_1, q1_2, z1_0, z1_1, z1_2⟩ := HS9_.out.c3 1 rfl
     have qe0 : W8_.cell? ⟨0, op.toNat * 6, none⟩ = some (.string (kN op)) := pw_cell_below HS9_.out.B t7_0.out
     have qe1 : W8_.cell? ⟨0, op.toNat * 6 + 1, none⟩ = some (.int .i64 (kO op)) := pw_cell_below HS9_.out.B t7_1.out
     have qe2 : W8_.cell? ⟨0, op.toNat * 6 + 2, none⟩ = some (.int .i64 (kA op)) := pw_cell_below HS9_.out.B t7_2.out
     have qe3 : W8_.cell? ⟨0, op.toNat * 6 + 3, none⟩ = some (.int .i64 (kB op)) := pw_cell_below HS9_.out.B t7_3.out
     have qe4 : W8_.cell? ⟨0, op.toNat * 6 + 4, none⟩ = some (.int .i64 (kT op)) := pw_cell_below HS9_.out.B t7_4.out
     have qe5 : W8_.cell? ⟨0, op.toNat * 6 + 5, none⟩ = some (.int .i64 (kP op)) := pw_cell_below HS9_.out.B t7_5.out
     go_wp2
     go_ret
     exact ⟨by simp [vr, vl, wi, c6_A.out, c13_A.out, Int.not_lt.2 c13_A.out, c14_A.out, Int.not_le.2 c14_A.out], HS9_.out.B⟩
    ·
     have c14_1 : decide ((kA op) < a) = false := by simpa using c14_
     have c14_2 : a ≤ (kA op) := by omega
     have c14_A := Aside0.mk c14_2
     clear c14_
     by_cases c15_ : b < 0
     ·
      have c15_A := Aside0.mk c15_
      have c15_1 : decide (b < 0) = true := by simpa using c15_
      obtain ⟨q0_0, q0_1, q0_2, q0_3, q0_4, q0_5, z0_0, z0_1, z0_2, z0_3, z0_4, z0_5⟩ := HS9_.out.c6 0 rfl
      obtain ⟨q1_0, q1_1, q1_2, z1_0, z1_1, z1_2⟩ := HS9_.out.c3 1 rfl
      have qe0 : W8_.cell? ⟨0, op.toNat * 6, none⟩ = some (.string (kN op)) := pw_cell_below HS9_.out.B t7_0.out
      have qe1 : W8_.cell? ⟨0, op.toNat * 6 + 1, none⟩ = some (.int .i64 (kO op)) := pw_cell_below HS9_.out.B t7_1.out
      have qe2 : W8_.cell? ⟨0, op.toNat * 6 + 2, none⟩ = some (.int .i64 (kA op)) := pw_cell_below HS9_.out.B t7_2.out
      have qe3 : W8_.cell? ⟨0, op.toNat * 6 + 3, none⟩ = some (.int .i64 (kB op)) := pw_cell_below HS9_.out.B t7_3.out
      have qe4 : W8_.cell? ⟨0, op.toNat * 6 + 4, none⟩ = some (.int .i64 (kT op)) := pw_cell_below HS9_.out.B t7_4.out
      have qe5 : W8_.cell? ⟨0, op.toNat * 6 + 5, none⟩ = some (.int .i64 (kP op)) := pw_cell_below HS9_.out.B t7_5.out
      go_wp2
      go_ret
      exact ⟨by simp [vr, vl, wi, c6_A.out, c13_A.out, Int.not_lt.2 c13_A.out, c14_A.out, Int.not_lt.2 c14_A.out, c15_A.out, Int.not_le.2 c15_A.out], HS9_.out.B⟩
     ·
      have c15_1 : decide (b < 0) = false := by simpa using c15_
      have c15_2 : 0 ≤ b := by omega
      have c15_A := Aside0.mk c15_2
      clear c15_
      by_cases c16_ : (kB op) < b
      ·
       have c16_A := Aside0.mk c16_
       have c16_1 : decide ((kB op) < b) = true := by simpa using c16_
       obtain ⟨q0_0, q0_1, q0_2, q0_3, q0_4, q0_5, z0_0, z0_1, z0_2, z0_3, z0_4, z0_5⟩ := HS9_.out.c6 0 rfl
       obtain ⟨q1_0, q1_1, q1_2, z1_0, z1_1, z1_2⟩ := HS9_.out.c3 1 rfl
       have qe0 : W8_.cell? ⟨0, op.toNat * 6, none⟩ = some (.string (kN op)) := pw_cell_below HS9_.out.B t7_0.out
       have qe1 : W8_.cell? ⟨0, op.toNat * 6 + 1, none⟩ = some (.int .i64 (kO op)) := pw_cell_below HS9_.out.B t7_1.out
       have qe2 : W8_.cell? ⟨0, op.toNat * 6 + 2, none⟩ = some (.int .i64 (kA op)) := pw_cell_below HS9_.out.B t7_2.out
       have qe3 : W8_.cell? ⟨0, op.toNat * 6 + 3, none⟩ = some (.int .i64 (kB op)) := pw_cell_below HS9_.out.B t7_3.out
       have qe4 : W8_.cell? ⟨0, op.toNat * 6 + 4, none⟩ = some (.int .i64 (kT op)) := pw_cell_below HS9_.out.B t7_4.out
       have qe5 : W8_.cell? ⟨0, op.toNat * 6 + 5, none⟩ = some (.int .i64 (kP op)) := pw_cell_below HS9_.out.B t7_5.out
       go_wp2
       go_ret
       exact ⟨by simp [vr, vl, wi, c6_A.out, c13_A.out, Int.not_lt.2 c13_A.out, c14_A.out, Int.not_lt.2 c14_A.out, c15_A.out, Int.not_lt.2 c15_A.out, c16_A.out, Int.not_le.2 c16_A.out], HS9_.out.B⟩
      ·
       have c16_1 : decide ((kB op) < b) = false := by simpa using c16_
       have c16_2 : b ≤ (kB op) := by omega
       have c16_A := Aside0.mk c16_2
       clear c16_
       obtain ⟨q0_0, q0_1, q0_2, q0_3, q0_4, q0_5, z0_0, z0_1, z0_2, z0_3, z0_4, z0_5⟩ := HS9_.out.c6 0 rfl
       obtain ⟨q1_0, q1_1, q1_2, z1_0, z1_1, z1_2⟩ := HS9_.out.c3 1 rfl
       have qe0 : W8_.cell? ⟨0, op.toNat * 6, none⟩ = some (.string (kN op)) := pw_cell_below HS9_.out.B t7_0.out
       have qe1 : W8_.cell? ⟨0, op.toNat * 6 + 1, none⟩ = some (.int .i64 (kO op)) := pw_cell_below HS9_.out.B t7_1.out
       have qe2 : W8_.cell? ⟨0, op.toNat * 6 + 2, none⟩ = some (.int .i64 (kA op)) := pw_cell_below HS9_.out.B t7_2.out
       have qe3 : W8_.cell? ⟨0, op.toNat * 6 + 3, none⟩ = some (.int .i64 (kB op)) := pw_cell_below HS9_.out.B t7_3.out
       have qe4 : W8_.cell? ⟨0, op.toNat * 6 + 4, none⟩ = some (.int .i64 (kT op)) := pw_cell_below HS9_.out.B t7_4.out
       have qe5 : W8_.cell? ⟨0, op.toNat * 6 + 5, none⟩ = some (.int .i64 (kP op)) := pw_cell_below HS9_.out.B t7_5.out
       go_wp2
       go_ret
       exact ⟨by simp [vr, vl, wi, c6_A.out, c13_A.out, Int.not_lt.2 c13_A.out, c14_A.out, Int.not_lt.2 c14_A.out, c15_A.out, Int.not_lt.2 c15_A.out, c16_A.out, Int.not_lt.2 c16_A.out], HS9_.out.B⟩
  ·
   have c6_A := Aside0.mk (Bool.eq_false_iff.2 c6_)
   clear c6_
   obtain ⟨q0_0, q0_1, q0_2, z0_0, z0_1, z0_2⟩ := HS2_.out.c3 0 rfl
   go_wp2_with (go_at_call 79; refine stop ?_)
   refine Stop.mk ?_
   refine (kn_calls op _).mono ?_
   rintro e W ⟨rfl, hw_⟩
   rw [hw_]
   clear hw_ W
   rw [c6_A.out]
   go_wp2
   go_ret
   exact ⟨by simp [vr, vl, wi, c6_A.out], HS2_.out.B⟩
set_option maxRecDepth 100000 in
set_option maxHeartbeats 4000000 in
theorem row_calls (op : Int) (w : World) (lr : Lr w) : Calls Tryd.prog 83 #[.int .i64 op] w fun e w' => e = .returned (.tuple #[.agg #[.string (rN op), .int .i64 (rA op), .int .i64 (rB op), .int .i64 (rT op), .int .i64 (rP op)], .int .i64 (rE op)]) ∧ Below w.heap.size w w' := by
  have LR := Aside0.mk lr
  clear lr
  have HS0 := Aside0.mk (St.start w)
  go_enter Tryd.func83, Tryd.ntmps83
  go_upto_region 1 with (fail)
  obtain ⟨W1_, hW3_⟩ : ∃ W, W = (w.alloc (.cells #[.string (⟨#[]⟩), .int .i64 0, .int .i64 0, .int .i64 0, .int .i64 0] 142 (0, 0))) := ⟨_, rfl⟩
  obtain ⟨g4_, hg5_⟩ : ∃ g, g = w.heap.size := ⟨_, rfl⟩
  have HS2_ : Aside0 (KitW.St w W1_ [Box g4_ #[.string (⟨#[]⟩), .int .i64 0, .int .i64 0, .int .i64 0, .int .i64 0] 142]) := by rw [hW3_, hg5_]; exact ⟨by simpa using (HS0.out.allocF #[.string (⟨#[]⟩), .int .i64 0, .int .i64 0, .int .i64 0, .int .i64 0] 142)⟩
  rw [← hW3_, ← hg5_]
  clear hW3_ hg5_ HS0
  by_cases c6_ : op < 0
  ·
   have c6_A := Aside0.mk c6_
   have c6_1 : decide (op < 0) = true := by simpa using c6_
   obtain ⟨q0_0, q0_1, q0_2, q0_3, q0_4, z0_0, z0_1, z0_2, z0_3, z0_4⟩ := HS2_.out.c5 0 rfl
   go_wp2
   clear q0_0 q0_1 q0_2 q0_3 q0_4 z0_0 z0_1 z0_2 z0_3 z0_4
   obtain ⟨W7_, hW9_⟩ : ∃ W, W = (((((W1_.setCell ⟨g4_, 0, none⟩ (.string (⟨#[]⟩))).setCell ⟨g4_, 1, none⟩ (.int .i64 0)).setCell ⟨g4_, 2, none⟩ (.int .i64 0)).setCell ⟨g4_, 3, none⟩ (.int .i64 0)).setCell ⟨g4_, 4, none⟩ (.int .i64 0)) := ⟨_, rfl⟩
   have HS8_ : Aside0 (KitW.St w W7_ [Box g4_ #[.string (⟨#[]⟩), .int .i64 0, .int .i64 0, .int .i64 0, .int .i64 0] 142]) := by rw [hW9_]; exact ⟨by simpa using (((((HS2_.out.set 0 rfl 0 (.string (⟨#[]⟩))).set 0 rfl 1 (.int .i64 0)).set 0 rfl 2 (.int .i64 0)).set 0 rfl 3 (.int .i64 0)).set 0 rfl 4 (.int .i64 0))⟩
   rw [← hW9_]
   clear hW9_ HS2_
   refine bodyPost_ret (results_ct rfl _ _ g4_ 142 #[.string (⟨#[]⟩), .int .i64 0, .int .i64 0, .int .i64 0, .int .i64 0] (0, 0) _ rfl (HS8_.out.box 0 rfl) Tryd.underlying142 rfl (by kernel_rfl)) rfl ?_
   exact ⟨by simp [rN, rA, rB, rT, rP, rE, kn, c6_A.out, Int.not_le.2 c6_A.out], HS8_.out.B⟩
  ·
   have c6_1 : decide (op < 0) = false := by simpa using c6_
   have c6_2 : 0 ≤ op := by omega
   have c6_A := Aside0.mk c6_2
   clear c6_
   by_cases c10_ : 29 ≤ op
   ·
    have c10_A := Aside0.mk c10_
    have c10_1 : decide (29 ≤ op) = true := by simpa using c10_
    obtain ⟨q0_0, q0_1, q0_2, q0_3, q0_4, z0_0, z0_1, z0_2, z0_3, z0_4⟩ := HS2_.out.c5 0 rfl
    go_wp2
    clear q0_0 q0_1 q0_2 q0_3 q0_4 z0_0 z0_1 z0_2 z0_3 z0_4
    obtain ⟨W11_, hW13_⟩ : ∃ W, W = (((((W1_.setCell ⟨g4_, 0, none⟩ (.string (⟨#[]⟩))).setCell ⟨g4_, 1, none⟩ (.int .i64 0)).setCell ⟨g4_, 2, none⟩ (.int .i64 0)).setCell ⟨g4_, 3, none⟩ (.int .i64 0)).setCell ⟨g4_, 4, none⟩ (.int .i64 0)) := ⟨_, rfl⟩
    have HS12_ : Aside0 (KitW.St w W11_ [Box g4_ #[.string (⟨#[]⟩), .int .i64 0, .int .i64 0, .int .i64 0, .int .i64 0] 142]) := by rw [hW13_]; exact ⟨by simpa using (((((HS2_.out.set 0 rfl 0 (.string (⟨#[]⟩))).set 0 rfl 1 (.int .i64 0)).set 0 rfl 2 (.int .i64 0)).set 0 rfl 3 (.int .i64 0)).set 0 rfl 4 (.int .i64 0))⟩
    rw [← hW13_]
    clear hW13_ HS2_
    refine bodyPost_ret (results_ct rfl _ _ g4_ 142 #[.string (⟨#[]⟩), .int .i64 0, .int .i64 0, .int .i64 0, .int .i64 0] (0, 0) _ rfl (HS12_.out.box 0 rfl) Tryd.underlying142 rfl (by kernel_rfl)) rfl ?_
    exact ⟨by simp [rN, rA, rB, rT, rP, rE, kn, c6_A.out, Int.not_lt.2 c6_A.out, c10_A.out, Int.not_lt.2 c10_A.out], HS12_.out.B⟩
   ·
    have c10_1 : decide (29 ≤ op) = false := by simpa using c10_
    have c10_2 : op < 29 := by omega
    have c10_A := Aside0.mk c10_2
    clear c10_
    have t14_0 := Aside0.mk (LR.out.c0 op (by omega) (by omega))
    have t14_1 := Aside0.mk (LR.out.c1 op (by omega) (by omega))
    have t14_2 := Aside0.mk (LR.out.c2 op (by omega) (by omega))
    have t14_3 := Aside0.mk (LR.out.c3 op (by omega) (by omega))
    have t14_4 := Aside0.mk (LR.out.c4 op (by omega) (by omega))
    obtain ⟨q0_0, q0_1, q0_2, q0_3, q0_4, z0_0, z0_1, z0_2, z0_3, z0_4⟩ := HS2_.out.c5 0 rfl
    have qe0 : W1_.cell? ⟨1, op.toNat * 5, none⟩ = some (.string (rN op)) := pw_cell_below HS2_.out.B t14_0.out
    have qe1 : W1_.cell? ⟨1, op.toNat * 5 + 1, none⟩ = some (.int .i64 (rA op)) := pw_cell_below HS2_.out.B t14_1.out
    have qe2 : W1_.cell? ⟨1, op.toNat * 5 + 2, none⟩ = some (.int .i64 (rB op)) := pw_cell_below HS2_.out.B t14_2.out
    have qe3 : W1_.cell? ⟨1, op.toNat * 5 + 3, none⟩ = some (.int .i64 (rT op)) := pw_cell_below HS2_.out.B t14_3.out
    have qe4 : W1_.cell? ⟨1, op.toNat * 5 + 4, none⟩ = some (.int .i64 (rP op)) := pw_cell_below HS2_.out.B t14_4.out
    go_wp2
    clear q0_0 q0_1 q0_2 q0_3 q0_4 z0_0 z0_1 z0_2 z0_3 z0_4 qe0 qe1 qe2 qe3 qe4
    obtain ⟨W15_, hW17_⟩ : ∃ W, W = (((((W1_.setCell ⟨g4_, 0, none⟩ (.string (rN op))).setCell ⟨g4_, 1, none⟩ (.int .i64 (rA op))).setCell ⟨g4_, 2, none⟩ (.int .i64 (rB op))).setCell ⟨g4_, 3, none⟩ (.int .i64 (rT op))).setCell ⟨g4_, 4, none⟩ (.int .i64 (rP op))) := ⟨_, rfl⟩
    have HS16_ : Aside0 (KitW.St w W15_ [Box g4_ #[.string (rN op), .int .i64 (rA op), .int .i64 (rB op), .int .i64 (rT op), .int .i64 (rP op)] 142]) := by rw [hW17_]; exact ⟨by simpa using (((((HS2_.out.set 0 rfl 0 (.string (rN op))).set 0 rfl 1 (.int .i64 (rA op))).set 0 rfl 2 (.int .i64 (rB op))).set 0 rfl 3 (.int .i64 (rT op))).set 0 rfl 4 (.int .i64 (rP op)))⟩
    rw [← hW17_]
    clear hW17_ HS2_
    refine bodyPost_ret (results_ct rfl _ _ g4_ 142 #[.string (rN op), .int .i64 (rA op), .int .i64 (rB op), .int .i64 (rT op), .int .i64 (rP op)] (0, 0) _ rfl (HS16_.out.box 0 rfl) Tryd.underlying142 rfl (by kernel_rfl)) rfl ?_
    exact ⟨by simp [rE, kn, c6_A.out, Int.not_lt.2 c6_A.out, c10_A.out, Int.not_le.2 c10_A.out], HS16_.out.B⟩
end Cn
end Go.Proofs.YtmhndfnmdkeiaaaDoor

namespace Go.Proofs.YtmhndfnmdkeiaaaDoor
open Go.RowKit Go.Proofs.YtmhndfnmdkeiaaaDoorW.PrintWords Go.Proofs.YtmhndfnmdkeiaaaDoorW.PrintLast Go.Proofs.YtmhndfnmdkeiaaaDoorW.PrintMore
open KitW
namespace Cn
set_option linter.unusedSimpArgs false
set_option linter.unusedVariables false
attribute [local go_sem] max2_int min2_int max_two min_two max_three min_three max_four min_four

theorem tab_rel : ∀ i : Fin 29, (rAl.getD i 0 = -1 ∧ kAl.getD i 0 = 0 ∨ rAl.getD i 0 = kAl.getD i 0 ∧ 0 ≤ kAl.getD i 0) ∧ (rBl.getD i 0 = -1 ∧ kBl.getD i 0 = 0 ∨ rBl.getD i 0 = kBl.getD i 0 ∧ 0 ≤ kBl.getD i 0) := by decide
theorem wi_rel {n r k : Int} (h : r = -1 ∧ k = 0 ∨ r = k ∧ 0 ≤ k) : wiB n r = wi n k := by
  unfold wiB wi
  rcases h with ⟨rfl, rfl⟩ | ⟨rfl, h⟩
  · rw [if_pos (by omega), Bool.eq_iff_iff]
    simp
    omega
  · rw [if_neg (by omega)]
theorem vl_eq (op a b : Int) : (kn op && wiB a (rA op) && wiB b (rB op)) = vl op a b := by
  unfold vl
  by_cases h : kn op = true
  · have h0 := kn_le h
    have h1 := kn_lt h
    obtain ⟨ha, hb⟩ := tab_rel ⟨op.toNat, by omega⟩
    unfold rA rB kA kB
    rw [h]
    simp only [if_true]
    rw [wi_rel ha, wi_rel hb]
  · rw [Bool.eq_false_iff.2 h]
    rfl
set_option maxRecDepth 100000 in
set_option maxHeartbeats 4000000 in
theorem validR_calls (op a b : Int) (w : World) (lr : Lr w) : Calls Tryd.prog 57 #[.agg #[.int .i64 op, .int .i64 a, .int .i64 b]] w fun e w' => e = .returned (.int .i64 (vr op a b)) ∧ Below w.heap.size w w' := by
  have LR := Aside0.mk lr
  clear lr
  have HS0 := Aside0.mk (St.start w)
  go_enter Tryd.func57, Tryd.ntmps57
  go_upto_region 1 with (fail)
  obtain ⟨W1_, hW3_⟩ : ∃ W, W = (w.alloc (.cells #[.int .i64 op, .int .i64 a, .int .i64 b] 56 (0, 0))) := ⟨_, rfl⟩
  obtain ⟨g4_, hg5_⟩ : ∃ g, g = w.heap.size := ⟨_, rfl⟩
  have HS2_ : Aside0 (KitW.St w W1_ [Box g4_ #[.int .i64 op, .int .i64 a, .int .i64 b] 56]) := by rw [hW3_, hg5_]; exact ⟨by simpa using (HS0.out.allocF #[.int .i64 op, .int .i64 a, .int .i64 b] 56)⟩
  rw [← hW3_, ← hg5_]
  clear hW3_ hg5_ HS0
  by_cases c6_ : (kn op) = true
  ·
   have c6_A := Aside0.mk c6_
   clear c6_
   obtain ⟨q0_0, q0_1, q0_2, z0_0, z0_1, z0_2⟩ := HS2_.out.c3 0 rfl
   go_wp2_with (go_at_call 83; refine stop ?_)
   refine Stop.mk ?_
   refine (row_calls op _ (LR.out.below HS2_.out.B)).mono ?_
   rintro e W7_ ⟨rfl, k9_⟩
   clear q0_0 q0_1 q0_2 z0_0 z0_1 z0_2
   have HS8_ := Aside0.mk (HS2_.out.below k9_)
   clear k9_ HS2_
   rw [show rE op = 0 from by simp [rE, c6_A.out]]
   obtain ⟨q0_0, q0_1, q0_2, z0_0, z0_1, z0_2⟩ := HS8_.out.c3 0 rfl
   go_upto_region 2 with (fail)
   clear q0_0 q0_1 q0_2 z0_0 z0_1 z0_2
   obtain ⟨W10_, hW12_⟩ : ∃ W, W = (W7_.alloc (.cells #[.string (rN op), .int .i64 (rA op), .int .i64 (rB op), .int .i64 (rT op), .int .i64 (rP op)] 142 (0, 0))) := ⟨_, rfl⟩
   obtain ⟨g13_, hg14_⟩ : ∃ g, g = W7_.heap.size := ⟨_, rfl⟩
   have HS11_ : Aside0 (KitW.St w W10_ [Box g13_ #[.string (rN op), .int .i64 (rA op), .int .i64 (rB op), .int .i64 (rT op), .int .i64 (rP op)] 142, Box g4_ #[.int .i64 op, .int .i64 a, .int .i64 b] 56]) := by rw [hW12_, hg14_]; exact ⟨by simpa using (HS8_.out.allocF #[.string (rN op), .int .i64 (rA op), .int .i64 (rB op), .int .i64 (rT op), .int .i64 (rP op)] 142)⟩
   rw [← hW12_, ← hg14_]
   clear hW12_ hg14_ HS8_
   by_cases c15_ : (wiB a (rA op)) = true
   ·
    have c15_A := Aside0.mk c15_
    clear c15_
    obtain ⟨q0_0, q0_1, q0_2, q0_3, q0_4, z0_0, z0_1, z0_2, z0_3, z0_4⟩ := HS11_.out.c5 0 rfl
    obtain ⟨q1_0, q1_1, q1_2, z1_0, z1_1, z1_2⟩ := HS11_.out.c3 1 rfl
    go_wp2_with (go_at_call 84; refine stop ?_)
    refine Stop.mk ?_
    refine (wiB_calls a (rA op) _).mono ?_
    rintro e W ⟨rfl, hw_⟩
    rw [hw_]
    clear hw_ W
    rw [c15_A.out]
    by_cases c16_ : (wiB b (rB op)) = true
    ·
     have c16_A := Aside0.mk c16_
     clear c16_
     go_wp2_with (go_at_call 84; refine stop ?_)
     refine Stop.mk ?_
     refine (wiB_calls b (rB op) _).mono ?_
     rintro e W ⟨rfl, hw_⟩
     rw [hw_]
     clear hw_ W
     rw [c16_A.out]
     go_wp2
     go_ret
     exact ⟨by unfold vr; rw [← vl_eq]; simp [c6_A.out, c15_A.out, c16_A.out], HS11_.out.B⟩
    ·
     have c16_A := Aside0.mk (Bool.eq_false_iff.2 c16_)
     clear c16_
     go_wp2_with (go_at_call 84; refine stop ?_)
     refine Stop.mk ?_
     refine (wiB_calls b (rB op) _).mono ?_
     rintro e W ⟨rfl, hw_⟩
     rw [hw_]
     clear hw_ W
     rw [c16_A.out]
     go_wp2
     go_ret
     exact ⟨by unfold vr; rw [← vl_eq]; simp [c6_A.out, c15_A.out, c16_A.out], HS11_.out.B⟩
   ·
    have c15_A := Aside0.mk (Bool.eq_false_iff.2 c15_)
    clear c15_
    obtain ⟨q0_0, q0_1, q0_2, q0_3, q0_4, z0_0, z0_1, z0_2, z0_3, z0_4⟩ := HS11_.out.c5 0 rfl
    obtain ⟨q1_0, q1_1, q1_2, z1_0, z1_1, z1_2⟩ := HS11_.out.c3 1 rfl
    go_wp2_with (go_at_call 84; refine stop ?_)
    refine Stop.mk ?_
    refine (wiB_calls a (rA op) _).mono ?_
    rintro e W ⟨rfl, hw_⟩
    rw [hw_]
    clear hw_ W
    rw [c15_A.out]
    by_cases c17_ : (wiB b (rB op)) = true
    ·
     have c17_A := Aside0.mk c17_
     clear c17_
     go_wp2_with (go_at_call 84; refine stop ?_)
     refine Stop.mk ?_
     refine (wiB_calls b (rB op) _).mono ?_
     rintro e W ⟨rfl, hw_⟩
     rw [hw_]
     clear hw_ W
     rw [c17_A.out]
     go_wp2
     go_ret
     exact ⟨by unfold vr; rw [← vl_eq]; simp [c6_A.out, c15_A.out, c17_A.out], HS11_.out.B⟩
    ·
     have c17_A := Aside0.mk (Bool.eq_false_iff.2 c17_)
     clear c17_
     go_wp2_with (go_at_call 84; refine stop ?_)
     refine Stop.mk ?_
     refine (wiB_calls b (rB op) _).mono ?_
     rintro e W ⟨rfl, hw_⟩
     rw [hw_]
     clear hw_ W
     rw [c17_A.out]
     go_wp2
     go_ret
     exact ⟨by unfold vr; rw [← vl_eq]; simp [c6_A.out, c15_A.out, c17_A.out], HS11_.out.B⟩
  ·
   have c6_A := Aside0.mk (Bool.eq_false_iff.2 c6_)
   clear c6_
   obtain ⟨q0_0, q0_1, q0_2, z0_0, z0_1, z0_2⟩ := HS2_.out.c3 0 rfl
   go_wp2_with (go_at_call 83; refine stop ?_)
   refine Stop.mk ?_
   refine (row_calls op _ (LR.out.below HS2_.out.B)).mono ?_
   rintro e W18_ ⟨rfl, k20_⟩
   clear q0_0 q0_1 q0_2 z0_0 z0_1 z0_2
   have HS19_ := Aside0.mk (HS2_.out.below k20_)
   clear k20_ HS2_
   rw [show rE op = 111 from by simp [rE, c6_A.out]]
   obtain ⟨q0_0, q0_1, q0_2, z0_0, z0_1, z0_2⟩ := HS19_.out.c3 0 rfl
   go_upto_region 2 with (fail)
   clear q0_0 q0_1 q0_2 z0_0 z0_1 z0_2
   obtain ⟨W21_, hW23_⟩ : ∃ W, W = (W18_.alloc (.cells #[.string (rN op), .int .i64 (rA op), .int .i64 (rB op), .int .i64 (rT op), .int .i64 (rP op)] 142 (0, 0))) := ⟨_, rfl⟩
   obtain ⟨g24_, hg25_⟩ : ∃ g, g = W18_.heap.size := ⟨_, rfl⟩
   have HS22_ : Aside0 (KitW.St w W21_ [Box g24_ #[.string (rN op), .int .i64 (rA op), .int .i64 (rB op), .int .i64 (rT op), .int .i64 (rP op)] 142, Box g4_ #[.int .i64 op, .int .i64 a, .int .i64 b] 56]) := by rw [hW23_, hg25_]; exact ⟨by simpa using (HS19_.out.allocF #[.string (rN op), .int .i64 (rA op), .int .i64 (rB op), .int .i64 (rT op), .int .i64 (rP op)] 142)⟩
   rw [← hW23_, ← hg25_]
   clear hW23_ hg25_ HS19_
   go_wp2
   go_ret
   exact ⟨by unfold vr; rw [← vl_eq]; simp [c6_A.out], HS22_.out.B⟩
def bnd (n0 n1 n2 : Nat) (ce s op : Int) : Int := if op = 1 then (n2 : Int) else if op = 3 then (n0 : Int) else if op = 28 then (n1 : Int) else if op = 4 then ce else if op = 5 then ce else if op = 6 then s else if op = 7 then s else 262144
set_option maxRecDepth 100000 in
set_option maxHeartbeats 4000000 in
theorem bound_calls (A0 : Option Addr) (n0 c0 : Nat) (A1 : Option Addr) (n1 c1 : Nat) (A2 : Option Addr) (n2 c2 : Nat) (h ce s st : Int) (A7 : Option Addr) (n7 c7 : Nat) (op : Int) (w : World) :
    Calls Tryd.prog 58 #[.agg #[.slice A0 n0 c0, .slice A1 n1 c1, .slice A2 n2 c2, .int .i64 h, .int .i64 ce, .int .i64 s, .int .i64 st, .slice A7 n7 c7], .int .i64 op] w fun e w' => e = .returned (.int .i64 (bnd n0 n1 n2 ce s op)) ∧ Below w.heap.size w w' := by
  have HS0 := Aside0.mk (St.start w)
  go_enter Tryd.func58, Tryd.ntmps58
  go_upto_region 1 with (fail)
  obtain ⟨W1_, hW3_⟩ : ∃ W, W = (w.alloc (.cells #[.slice A0 n0 c0, .slice A1 n1 c1, .slice A2 n2 c2, .int .i64 h, .int .i64 ce, .int .i64 s, .int .i64 st, .slice A7 n7 c7] 26 (0, 0))) := ⟨_, rfl⟩
  obtain ⟨g4_, hg5_⟩ : ∃ g, g = w.heap.size := ⟨_, rfl⟩
  have HS2_ : Aside0 (KitW.St w W1_ [Box g4_ #[.slice A0 n0 c0, .slice A1 n1 c1, .slice A2 n2 c2, .int .i64 h, .int .i64 ce, .int .i64 s, .int .i64 st, .slice A7 n7 c7] 26]) := by rw [hW3_, hg5_]; exact ⟨by simpa using (HS0.out.allocF #[.slice A0 n0 c0, .slice A1 n1 c1, .slice A2 n2 c2, .int .i64 h, .int .i64 ce, .int .i64 s, .int .i64 st, .slice A7 n7 c7] 26)⟩
  rw [← hW3_, ← hg5_]
  clear hW3_ hg5_ HS0
  by_cases c6_ : op = 1
  ·
   have c6_A := Aside0.mk c6_
   have c6_1 : (op == 1) = true := by simpa using c6_
   have c6_2 : (op != 1) = false := by simpa using c6_
   clear c6_
   obtain ⟨q0_0, q0_1, q0_2, q0_3, q0_4, q0_5, q0_6, q0_7, z0_0, z0_1, z0_2, z0_3, z0_4, z0_5, z0_6, z0_7⟩ := HS2_.out.c8 0 rfl
   go_wp2
   go_ret
   exact ⟨by simp [bnd, c6_A.out], HS2_.out.B⟩
  ·
   have c6_A := Aside0.mk c6_
   have c6_1 : (op == 1) = false := by simpa using c6_
   have c6_2 : (op != 1) = true := by simpa using c6_
   clear c6_
   by_cases c7_ : op = 3
   ·
    have c7_A := Aside0.mk c7_
    have c7_1 : (op == 3) = true := by simpa using c7_
    have c7_2 : (op != 3) = false := by simpa using c7_
    clear c7_
    obtain ⟨q0_0, q0_1, q0_2, q0_3, q0_4, q0_5, q0_6, q0_7, z0_0, z0_1, z0_2, z0_3, z0_4, z0_5, z0_6, z0_7⟩ := HS2_.out.c8 0 rfl
    go_wp2
    go_ret
    exact ⟨by simp [bnd, c6_A.out, c7_A.out], HS2_.out.B⟩
   ·
    have c7_A := Aside0.mk c7_
    have c7_1 : (op == 3) = false := by simpa using c7_
    have c7_2 : (op != 3) = true := by simpa using c7_
    clear c7_
    by_cases c8_ : op = 28
    ·
     have c8_A := Aside0.mk c8_
     have c8_1 : (op == 28) = true := by simpa using c8_
     have c8_2 : (op != 28) = false := by simpa using c8_
     clear c8_
     obtain ⟨q0_0, q0_1, q0_2, q0_3, q0_4, q0_5, q0_6, q0_7, z0_0, z0_1, z0_2, z0_3, z0_4, z0_5, z0_6, z0_7⟩ := HS2_.out.c8 0 rfl
     go_wp2
     go_ret
     exact ⟨by simp [bnd, c6_A.out, c7_A.out, c8_A.out], HS2_.out.B⟩
    ·
     have c8_A := Aside0.mk c8_
     have c8_1 : (op == 28) = false := by simpa using c8_
     have c8_2 : (op != 28) = true := by simpa using c8_
     clear c8_
     by_cases c9_ : op = 4
     ·
      have c9_A := Aside0.mk c9_
      have c9_1 : (op == 4) = true := by simpa using c9_
      have c9_2 : (op != 4) = false := by simpa using c9_
      clear c9_
      obtain ⟨q0_0, q0_1, q0_2, q0_3, q0_4, q0_5, q0_6, q0_7, z0_0, z0_1, z0_2, z0_3, z0_4, z0_5, z0_6, z0_7⟩ := HS2_.out.c8 0 rfl
      go_wp2
      go_ret
      exact ⟨by simp [bnd, c6_A.out, c7_A.out, c8_A.out, c9_A.out], HS2_.out.B⟩
     ·
      have c9_A := Aside0.mk c9_
      have c9_1 : (op == 4) = false := by simpa using c9_
      have c9_2 : (op != 4) = true := by simpa using c9_
      clear c9_
      by_cases c10_ : op = 5
      ·
       have c10_A := Aside0.mk c10_
       have c10_1 : (op == 5) = true := by simpa using c10_
       have c10_2 : (op != 5) = false := by simpa using c10_
       clear c10_
       obtain ⟨q0_0, q0_1, q0_2, q0_3, q0_4, q0_5, q0_6, q0_7, z0_0, z0_1, z0_2, z0_3, z0_4, z0_5, z0_6, z0_7⟩ := HS2_.out.c8 0 rfl
       go_wp2
       go_ret
       exact ⟨by simp [bnd, c6_A.out, c7_A.out, c8_A.out, c9_A.out, c10_A.out], HS2_.out.B⟩
      ·
       have c10_A := Aside0.mk c10_
       have c10_1 : (op == 5) = false := by simpa using c10_
       have c10_2 : (op != 5) = true := by simpa using c10_
       clear c10_
       by_cases c11_ : op = 6
       ·
        have c11_A := Aside0.mk c11_
        have c11_1 : (op == 6) = true := by simpa using c11_
        have c11_2 : (op != 6) = false := by simpa using c11_
        clear c11_
        obtain ⟨q0_0, q0_1, q0_2, q0_3, q0_4, q0_5, q0_6, q0_7, z0_0, z0_1, z0_2, z0_3, z0_4, z0_5, z0_6, z0_7⟩ := HS2_.out.c8 0 rfl
        go_wp2
        go_ret
        exact ⟨by simp [bnd, c6_A.out, c7_A.out, c8_A.out, c9_A.out, c10_A.out, c11_A.out], HS2_.out.B⟩
       ·
        have c11_A := Aside0.mk c11_
        have c11_1 : (op == 6) = false := by simpa using c11_
        have c11_2 : (op != 6) = true := by simpa using c11_
        clear c11_
        by_cases c12_ : op = 7
        ·
         have c12_A := Aside0.mk c12_
         have c12_1 : (op == 7) = true := by simpa using c12_
         have c12_2 : (op != 7) = false := by simpa using c12_
         clear c12_
         obtain ⟨q0_0, q0_1, q0_2, q0_3, q0_4, q0_5, q0_6, q0_7, z0_0, z0_1, z0_2, z0_3, z0_4, z0_5, z0_6, z0_7⟩ := HS2_.out.c8 0 rfl
         go_wp2
         go_ret
         exact ⟨by simp [bnd, c6_A.out, c7_A.out, c8_A.out, c9_A.out, c10_A.out, c11_A.out, c12_A.out], HS2_.out.B⟩
        ·
         have c12_A := Aside0.mk c12_
         have c12_1 : (op == 7) = false := by simpa using c12_
         have c12_2 : (op != 7) = true := by simpa using c12_
         clear c12_
         go_wp2
         go_ret
         exact ⟨by simp [bnd, c6_A.out, c7_A.out, c8_A.out, c9_A.out, c10_A.out, c11_A.out, c12_A.out], HS2_.out.B⟩
end Cn
end Go.Proofs.YtmhndfnmdkeiaaaDoor

namespace Go.Proofs.YtmhndfnmdkeiaaaDoor
open Go.RowKit Go.Proofs.YtmhndfnmdkeiaaaDoorW.PrintWords Go.Proofs.YtmhndfnmdkeiaaaDoorW.PrintLast Go.Proofs.YtmhndfnmdkeiaaaDoorW.PrintMore
open KitW
namespace Cn
set_option linter.unusedSimpArgs false
set_option linter.unusedVariables false
attribute [local go_sem] max2_int min2_int max_two min_two max_three min_three max_four min_four

def insB (n0 n1 n2 : Nat) (ce s op a : Int) : Bool := if op = 1 then decide (a < (n2 : Int)) else if op = 3 then decide (a < (n0 : Int)) else if op = 28 then decide (a < (n1 : Int)) else if op = 4 then decide (a < ce) else if op = 5 then decide (a < ce) else if op = 6 then decide (a < s) else if op = 7 then decide (a < s) else true
def upd (k op a : Int) (bs : List Bool) : List Bool := if op = k ∧ a < (bs.length : Int) then bs.set a.toNat true else bs
set_option maxRecDepth 100000 in
set_option maxHeartbeats 4000000 in
theorem ins_calls (w0 : World) (R : List Asn) (gu g0 g1 g2 m0 m1 m2 : Nat) (b0 b1 b2 : List Bool) (A0 : Option Addr) (n0 c0 : Nat) (A1 : Option Addr) (n1 c1 : Nat) (A2 : Option Addr) (n2 c2 : Nat) (h ce s st : Int) (A7 : Option Addr) (n7 c7 : Nat) (op a b : Int) (w : World) (e0 : b0.length = m0) (e1 : b1.length = m1) (e2 : b2.length = m2) (h0 : 0 ≤ a)
    (hS : St w0 w (Box gu #[.slice (some ⟨g0, 0, none⟩) m0 m0, .slice (some ⟨g1, 0, none⟩) m1 m1, .slice (some ⟨g2, 0, none⟩) m2 m2] 60 :: Box g2 (bv b2) 4 :: Box g1 (bv b1) 4 :: Box g0 (bv b0) 4 :: R)) :
    Calls Tryd.prog 52 #[.pointer (some ⟨gu, 0, none⟩), .agg #[.slice A0 n0 c0, .slice A1 n1 c1, .slice A2 n2 c2, .int .i64 h, .int .i64 ce, .int .i64 s, .int .i64 st, .slice A7 n7 c7], .agg #[.int .i64 op, .int .i64 a, .int .i64 b]] w fun e w' => e = .returned (.bool (insB m0 m1 m2 ce s op a)) ∧ St w0 w' (Box gu #[.slice (some ⟨g0, 0, none⟩) m0 m0, .slice (some ⟨g1, 0, none⟩) m1 m1, .slice (some ⟨g2, 0, none⟩) m2 m2] 60 :: Box g2 (bv (upd 1 op a b2)) 4 :: Box g1 (bv (upd 28 op a b1)) 4 :: Box g0 (bv (upd 3 op a b0)) 4 :: R) := by
  have HS0 := Aside0.mk hS
  clear hS
  go_enter Tryd.func52, Tryd.ntmps52
  go_upto_region 1 with (fail)
  obtain ⟨W1_, hW3_⟩ : ∃ W, W = ((w.alloc (.cells #[.slice A0 n0 c0, .slice A1 n1 c1, .slice A2 n2 c2, .int .i64 h, .int .i64 ce, .int .i64 s, .int .i64 st, .slice A7 n7 c7] 26 (0, 0))).alloc (.cells #[.int .i64 op, .int .i64 a, .int .i64 b] 56 (0, 0))) := ⟨_, rfl⟩
  obtain ⟨g4_, hg5_⟩ : ∃ g, g = w.heap.size := ⟨_, rfl⟩
  obtain ⟨g6_, hg7_⟩ : ∃ g, g = w.heap.size + 1 := ⟨_, rfl⟩
  have HS2_ : Aside0 (KitW.St w0 W1_ (Box g6_ #[.int .i64 op, .int .i64 a, .int .i64 b] 56 :: Box g4_ #[.slice A0 n0 c0, .slice A1 n1 c1, .slice A2 n2 c2, .int .i64 h, .int .i64 ce, .int .i64 s, .int .i64 st, .slice A7 n7 c7] 26 :: Box gu #[.slice (some ⟨g0, 0, none⟩) m0 m0, .slice (some ⟨g1, 0, none⟩) m1 m1, .slice (some ⟨g2, 0, none⟩) m2 m2] 60 :: Box g2 (bv b2) 4 :: Box g1 (bv b1) 4 :: Box g0 (bv b0) 4 :: R)) := by rw [hW3_, hg7_, hg5_]; exact ⟨by simpa [bv_set] using ((HS0.out.allocF #[.slice A0 n0 c0, .slice A1 n1 c1, .slice A2 n2 c2, .int .i64 h, .int .i64 ce, .int .i64 s, .int .i64 st, .slice A7 n7 c7] 26).allocF #[.int .i64 op, .int .i64 a, .int .i64 b] 56)⟩
  rw [← hW3_, ← hg7_, ← hg5_]
  clear hW3_ hg5_ hg7_ HS0
  by_cases c8_ : op = 1
  ·
   have c8_A := Aside0.mk c8_
   have c8_1 : (op == 1) = true := by simpa using c8_
   have c8_2 : (op != 1) = false := by simpa using c8_
   clear c8_
   by_cases c9_ : ((m2 : Nat) : Int) ≤ a
   ·
    have c9_A := Aside0.mk c9_
    have c9_1 : decide (((m2 : Nat) : Int) ≤ a) = true := by simpa using c9_
    obtain ⟨q0_0, q0_1, q0_2, z0_0, z0_1, z0_2⟩ := HS2_.out.c3 0 rfl
    obtain ⟨q2_0, q2_1, q2_2, z2_0, z2_1, z2_2⟩ := HS2_.out.c3 2 rfl
    go_wp2
    go_ret
    exact ⟨by simp [insB, c8_A.out, c9_A.out, Int.not_lt.2 c9_A.out], by simpa [upd, e0, e1, e2, c8_A.out, c9_A.out, Int.not_lt.2 c9_A.out] using HS2_.out.drop 2⟩
   ·
    have c9_1 : decide (((m2 : Nat) : Int) ≤ a) = false := by simpa using c9_
    have c9_2 : a < ((m2 : Nat) : Int) := by omega
    have c9_A := Aside0.mk c9_2
    clear c9_
    have v10_0 := HS2_.out.frozen 3 rfl a.toNat
    have v10_1 : W1_.cell? ⟨g2, a.toNat, none⟩ = some (.bool (b2.getD a.toNat false)) := (HS2_.out.cell 3 rfl a.toNat).trans (bv_get (by omega))
    obtain ⟨q0_0, q0_1, q0_2, z0_0, z0_1, z0_2⟩ := HS2_.out.c3 0 rfl
    obtain ⟨q2_0, q2_1, q2_2, z2_0, z2_1, z2_2⟩ := HS2_.out.c3 2 rfl
    go_upto_region 19 with (fail)
    clear q0_0 q0_1 q0_2 z0_0 z0_1 z0_2 q2_0 q2_1 q2_2 z2_0 z2_1 z2_2
    obtain ⟨W11_, hW13_⟩ : ∃ W, W = (W1_.setCell ⟨g2, a.toNat, none⟩ (.bool true)) := ⟨_, rfl⟩
    have HS12_ : Aside0 (KitW.St w0 W11_ (Box g6_ #[.int .i64 op, .int .i64 a, .int .i64 b] 56 :: Box g4_ #[.slice A0 n0 c0, .slice A1 n1 c1, .slice A2 n2 c2, .int .i64 h, .int .i64 ce, .int .i64 s, .int .i64 st, .slice A7 n7 c7] 26 :: Box gu #[.slice (some ⟨g0, 0, none⟩) m0 m0, .slice (some ⟨g1, 0, none⟩) m1 m1, .slice (some ⟨g2, 0, none⟩) m2 m2] 60 :: Box g2 (bv (b2.set a.toNat true)) 4 :: Box g1 (bv b1) 4 :: Box g0 (bv b0) 4 :: R)) := by rw [hW13_]; exact ⟨by simpa [bv_set] using (HS2_.out.set 3 rfl a.toNat (.bool true))⟩
    rw [← hW13_]
    clear hW13_ HS2_
    go_wp2
    go_ret
    exact ⟨by simp [insB, c8_A.out, c9_A.out, Int.not_le.2 c9_A.out], by simpa [upd, e0, e1, e2, c8_A.out, c9_A.out, Int.not_le.2 c9_A.out] using HS12_.out.drop 2⟩
  ·
   have c8_A := Aside0.mk c8_
   have c8_1 : (op == 1) = false := by simpa using c8_
   have c8_2 : (op != 1) = true := by simpa using c8_
   clear c8_
   by_cases c14_ : op = 3
   ·
    have c14_A := Aside0.mk c14_
    have c14_1 : (op == 3) = true := by simpa using c14_
    have c14_2 : (op != 3) = false := by simpa using c14_
    clear c14_
    by_cases c15_ : ((m0 : Nat) : Int) ≤ a
    ·
     have c15_A := Aside0.mk c15_
     have c15_1 : decide (((m0 : Nat) : Int) ≤ a) = true := by simpa using c15_
     obtain ⟨q0_0, q0_1, q0_2, z0_0, z0_1, z0_2⟩ := HS2_.out.c3 0 rfl
     obtain ⟨q2_0, q2_1, q2_2, z2_0, z2_1, z2_2⟩ := HS2_.out.c3 2 rfl
     go_wp2
     go_ret
     exact ⟨by simp [insB, c8_A.out, c14_A.out, c15_A.out, Int.not_lt.2 c15_A.out], by simpa [upd, e0, e1, e2, c8_A.out, c14_A.out, c15_A.out, Int.not_lt.2 c15_A.out] using HS2_.out.drop 2⟩
    ·
     have c15_1 : decide (((m0 : Nat) : Int) ≤ a) = false := by simpa using c15_
     have c15_2 : a < ((m0 : Nat) : Int) := by omega
     have c15_A := Aside0.mk c15_2
     clear c15_
     have v16_0 := HS2_.out.frozen 5 rfl a.toNat
     have v16_1 : W1_.cell? ⟨g0, a.toNat, none⟩ = some (.bool (b0.getD a.toNat false)) := (HS2_.out.cell 5 rfl a.toNat).trans (bv_get (by omega))
     obtain ⟨q0_0, q0_1, q0_2, z0_0, z0_1, z0_2⟩ := HS2_.out.c3 0 rfl
     obtain ⟨q2_0, q2_1, q2_2, z2_0, z2_1, z2_2⟩ := HS2_.out.c3 2 rfl
     go_upto_region 19 with (fail)
     clear q0_0 q0_1 q0_2 z0_0 z0_1 z0_2 q2_0 q2_1 q2_2 z2_0 z2_1 z2_2
     obtain ⟨W17_, hW19_⟩ : ∃ W, W = (W1_.setCell ⟨g0, a.toNat, none⟩ (.bool true)) := ⟨_, rfl⟩
     have HS18_ : Aside0 (KitW.St w0 W17_ (Box g6_ #[.int .i64 op, .int .i64 a, .int .i64 b] 56 :: Box g4_ #[.slice A0 n0 c0, .slice A1 n1 c1, .slice A2 n2 c2, .int .i64 h, .int .i64 ce, .int .i64 s, .int .i64 st, .slice A7 n7 c7] 26 :: Box gu #[.slice (some ⟨g0, 0, none⟩) m0 m0, .slice (some ⟨g1, 0, none⟩) m1 m1, .slice (some ⟨g2, 0, none⟩) m2 m2] 60 :: Box g2 (bv b2) 4 :: Box g1 (bv b1) 4 :: Box g0 (bv (b0.set a.toNat true)) 4 :: R)) := by rw [hW19_]; exact ⟨by simpa [bv_set] using (HS2_.out.set 5 rfl a.toNat (.bool true))⟩
     rw [← hW19_]
     clear hW19_ HS2_
     go_wp2
     go_ret
     exact ⟨by simp [insB, c8_A.out, c14_A.out, c15_A.out, Int.not_le.2 c15_A.out], by simpa [upd, e0, e1, e2, c8_A.out, c14_A.out, c15_A.out, Int.not_le.2 c15_A.out] using HS18_.out.drop 2⟩
   ·
    have c14_A := Aside0.mk c14_
    have c14_1 : (op == 3) = false := by simpa using c14_
    have c14_2 : (op != 3) = true := by simpa using c14_
    clear c14_
    by_cases c20_ : op = 28
    ·
     have c20_A := Aside0.mk c20_
     have c20_1 : (op == 28) = true := by simpa using c20_
     have c20_2 : (op != 28) = false := by simpa using c20_
     clear c20_
     by_cases c21_ : ((m1 : Nat) : Int) ≤ a
     ·
      have c21_A := Aside0.mk c21_
      have c21_1 : decide (((m1 : Nat) : Int) ≤ a) = true := by simpa using c21_
      obtain ⟨q0_0, q0_1, q0_2, z0_0, z0_1, z0_2⟩ := HS2_.out.c3 0 rfl
      obtain ⟨q2_0, q2_1, q2_2, z2_0, z2_1, z2_2⟩ := HS2_.out.c3 2 rfl
      go_wp2
      go_ret
      exact ⟨by simp [insB, c8_A.out, c14_A.out, c20_A.out, c21_A.out, Int.not_lt.2 c21_A.out], by simpa [upd, e0, e1, e2, c8_A.out, c14_A.out, c20_A.out, c21_A.out, Int.not_lt.2 c21_A.out] using HS2_.out.drop 2⟩
     ·
      have c21_1 : decide (((m1 : Nat) : Int) ≤ a) = false := by simpa using c21_
      have c21_2 : a < ((m1 : Nat) : Int) := by omega
      have c21_A := Aside0.mk c21_2
      clear c21_
      have v22_0 := HS2_.out.frozen 4 rfl a.toNat
      have v22_1 : W1_.cell? ⟨g1, a.toNat, none⟩ = some (.bool (b1.getD a.toNat false)) := (HS2_.out.cell 4 rfl a.toNat).trans (bv_get (by omega))
      obtain ⟨q0_0, q0_1, q0_2, z0_0, z0_1, z0_2⟩ := HS2_.out.c3 0 rfl
      obtain ⟨q2_0, q2_1, q2_2, z2_0, z2_1, z2_2⟩ := HS2_.out.c3 2 rfl
      go_upto_region 19 with (fail)
      clear q0_0 q0_1 q0_2 z0_0 z0_1 z0_2 q2_0 q2_1 q2_2 z2_0 z2_1 z2_2
      obtain ⟨W23_, hW25_⟩ : ∃ W, W = (W1_.setCell ⟨g1, a.toNat, none⟩ (.bool true)) := ⟨_, rfl⟩
      have HS24_ : Aside0 (KitW.St w0 W23_ (Box g6_ #[.int .i64 op, .int .i64 a, .int .i64 b] 56 :: Box g4_ #[.slice A0 n0 c0, .slice A1 n1 c1, .slice A2 n2 c2, .int .i64 h, .int .i64 ce, .int .i64 s, .int .i64 st, .slice A7 n7 c7] 26 :: Box gu #[.slice (some ⟨g0, 0, none⟩) m0 m0, .slice (some ⟨g1, 0, none⟩) m1 m1, .slice (some ⟨g2, 0, none⟩) m2 m2] 60 :: Box g2 (bv b2) 4 :: Box g1 (bv (b1.set a.toNat true)) 4 :: Box g0 (bv b0) 4 :: R)) := by rw [hW25_]; exact ⟨by simpa [bv_set] using (HS2_.out.set 4 rfl a.toNat (.bool true))⟩
      rw [← hW25_]
      clear hW25_ HS2_
      go_wp2
      go_ret
      exact ⟨by simp [insB, c8_A.out, c14_A.out, c20_A.out, c21_A.out, Int.not_le.2 c21_A.out], by simpa [upd, e0, e1, e2, c8_A.out, c14_A.out, c20_A.out, c21_A.out, Int.not_le.2 c21_A.out] using HS24_.out.drop 2⟩
    ·
     have c20_A := Aside0.mk c20_
     have c20_1 : (op == 28) = false := by simpa using c20_
     have c20_2 : (op != 28) = true := by simpa using c20_
     clear c20_
     by_cases c26_ : op = 4
     ·
      have c26_A := Aside0.mk c26_
      have c26_1 : (op == 4) = true := by simpa using c26_
      have c26_2 : (op != 4) = false := by simpa using c26_
      clear c26_
      obtain ⟨q0_0, q0_1, q0_2, z0_0, z0_1, z0_2⟩ := HS2_.out.c3 0 rfl
      obtain ⟨q1_0, q1_1, q1_2, q1_3, q1_4, q1_5, q1_6, q1_7, z1_0, z1_1, z1_2, z1_3, z1_4, z1_5, z1_6, z1_7⟩ := HS2_.out.c8 1 rfl
      go_wp2
      go_ret
      exact ⟨by simp [insB, c8_A.out, c14_A.out, c20_A.out, c26_A.out], by simpa [upd, e0, e1, e2, c8_A.out, c14_A.out, c20_A.out, c26_A.out] using HS2_.out.drop 2⟩
     ·
      have c26_A := Aside0.mk c26_
      have c26_1 : (op == 4) = false := by simpa using c26_
      have c26_2 : (op != 4) = true := by simpa using c26_
      clear c26_
      by_cases c27_ : op = 5
      ·
       have c27_A := Aside0.mk c27_
       have c27_1 : (op == 5) = true := by simpa using c27_
       have c27_2 : (op != 5) = false := by simpa using c27_
       clear c27_
       obtain ⟨q0_0, q0_1, q0_2, z0_0, z0_1, z0_2⟩ := HS2_.out.c3 0 rfl
       obtain ⟨q1_0, q1_1, q1_2, q1_3, q1_4, q1_5, q1_6, q1_7, z1_0, z1_1, z1_2, z1_3, z1_4, z1_5, z1_6, z1_7⟩ := HS2_.out.c8 1 rfl
       go_wp2
       go_ret
       exact ⟨by simp [insB, c8_A.out, c14_A.out, c20_A.out, c26_A.out, c27_A.out], by simpa [upd, e0, e1, e2, c8_A.out, c14_A.out, c20_A.out, c26_A.out, c27_A.out] using HS2_.out.drop 2⟩
      ·
       have c27_A := Aside0.mk c27_
       have c27_1 : (op == 5) = false := by simpa using c27_
       have c27_2 : (op != 5) = true := by simpa using c27_
       clear c27_
       by_cases c28_ : op = 6
       ·
        have c28_A := Aside0.mk c28_
        have c28_1 : (op == 6) = true := by simpa using c28_
        have c28_2 : (op != 6) = false := by simpa using c28_
        clear c28_
        obtain ⟨q0_0, q0_1, q0_2, z0_0, z0_1, z0_2⟩ := HS2_.out.c3 0 rfl
        obtain ⟨q1_0, q1_1, q1_2, q1_3, q1_4, q1_5, q1_6, q1_7, z1_0, z1_1, z1_2, z1_3, z1_4, z1_5, z1_6, z1_7⟩ := HS2_.out.c8 1 rfl
        go_wp2
        go_ret
        exact ⟨by simp [insB, c8_A.out, c14_A.out, c20_A.out, c26_A.out, c27_A.out, c28_A.out], by simpa [upd, e0, e1, e2, c8_A.out, c14_A.out, c20_A.out, c26_A.out, c27_A.out, c28_A.out] using HS2_.out.drop 2⟩
       ·
        have c28_A := Aside0.mk c28_
        have c28_1 : (op == 6) = false := by simpa using c28_
        have c28_2 : (op != 6) = true := by simpa using c28_
        clear c28_
        by_cases c29_ : op = 7
        ·
         have c29_A := Aside0.mk c29_
         have c29_1 : (op == 7) = true := by simpa using c29_
         have c29_2 : (op != 7) = false := by simpa using c29_
         clear c29_
         obtain ⟨q0_0, q0_1, q0_2, z0_0, z0_1, z0_2⟩ := HS2_.out.c3 0 rfl
         obtain ⟨q1_0, q1_1, q1_2, q1_3, q1_4, q1_5, q1_6, q1_7, z1_0, z1_1, z1_2, z1_3, z1_4, z1_5, z1_6, z1_7⟩ := HS2_.out.c8 1 rfl
         go_wp2
         go_ret
         exact ⟨by simp [insB, c8_A.out, c14_A.out, c20_A.out, c26_A.out, c27_A.out, c28_A.out, c29_A.out], by simpa [upd, e0, e1, e2, c8_A.out, c14_A.out, c20_A.out, c26_A.out, c27_A.out, c28_A.out, c29_A.out] using HS2_.out.drop 2⟩
        ·
         have c29_A := Aside0.mk c29_
         have c29_1 : (op == 7) = false := by simpa using c29_
         have c29_2 : (op != 7) = true := by simpa using c29_
         clear c29_
         obtain ⟨q0_0, q0_1, q0_2, z0_0, z0_1, z0_2⟩ := HS2_.out.c3 0 rfl
         go_wp2
         go_ret
         exact ⟨by simp [insB, c8_A.out, c14_A.out, c20_A.out, c26_A.out, c27_A.out, c28_A.out, c29_A.out], by simpa [upd, e0, e1, e2, c8_A.out, c14_A.out, c20_A.out, c26_A.out, c27_A.out, c28_A.out, c29_A.out] using HS2_.out.drop 2⟩
end Cn
end Go.Proofs.YtmhndfnmdkeiaaaDoor

namespace Go.Proofs.YtmhndfnmdkeiaaaDoor
open Go.RowKit Go.Proofs.YtmhndfnmdkeiaaaDoorW.PrintWords Go.Proofs.YtmhndfnmdkeiaaaDoorW.PrintLast Go.Proofs.YtmhndfnmdkeiaaaDoorW.PrintMore
open KitW PEqual
namespace Cn
set_option linter.unusedSimpArgs false
set_option linter.unusedVariables false
attribute [local go_sem] max2_int min2_int max_two min_two max_three min_three max_four min_four

theorem vr_le {op a b : Int} (h : vr op a b = 0) : 0 ≤ a := by
  unfold vr at h
  by_cases hv : vl op a b = true
  · unfold vl wi at hv
    simp at hv
    omega
  · rw [if_neg hv] at h
    cases h
theorem upd_len (k op a : Int) (bs : List Bool) : (upd k op a bs).length = bs.length := by
  unfold upd
  split <;> simp
def use (k : Int) (l : List S56) (bs : List Bool) : List Bool := l.foldl (fun bs x => upd k x.f0 x.f1 bs) bs
def stepB (m0 m1 m2 : Nat) (ce s : Int) (last i : Int) (x : S56) : Bool := (vr x.f0 x.f1 x.f2 == 0) && ((x.f0 == 0) == (i == last)) && insB m0 m1 m2 ce s x.f0 x.f1
def dayB (m0 m1 m2 : Nat) (ce s : Int) (l : List S56) : Bool := decide (2 ≤ (l.length : Int)) && (List.range l.length).all fun i => stepB m0 m1 m2 ce s ((l.length : Int) - 1) (i : Int) (l.getD i z56)
theorem use_len (k : Int) : ∀ (l : List S56) (bs : List Bool), (use k l bs).length = bs.length
  | [], _ => rfl
  | x :: l, bs => (use_len k l (upd k x.f0 x.f1 bs)).trans (upd_len _ _ _ _)
theorem use_step {k : Int} {l : List S56} {bs : List Bool} {i : Int} {x : S56} (h0 : 0 ≤ i) (h1 : i < (l.length : Int)) (hx : x = l.getD i.toNat z56) : upd k x.f0 x.f1 (use k (l.take i.toNat) bs) = use k (l.take (i + 1).toNat) bs := by
  have h2 : i.toNat < l.length := by omega
  rw [show (i + 1).toNat = i.toNat + 1 from by omega, List.take_succ_eq_append_getElem h2]
  unfold use
  rw [List.foldl_append]
  rw [List.getD_eq_getElem?_getD, List.getElem?_eq_getElem h2, Option.getD_some] at hx
  rw [← hx]
  rfl
theorem day_no {m0 m1 m2 : Nat} {ce s i : Int} {l : List S56} {x : S56} (h0 : 0 ≤ i) (h1 : i < (l.length : Int)) (hx : x = l.getD i.toNat z56) (h : stepB m0 m1 m2 ce s ((l.length : Int) - 1) i x = false) : dayB m0 m1 m2 ce s l = false := by
  rw [← Bool.not_eq_true]
  intro ha
  unfold dayB at ha
  rw [Bool.and_eq_true, List.all_eq_true] at ha
  have := ha.2 i.toNat (by rw [List.mem_range]; omega)
  rw [Int.toNat_of_nonneg h0, ← hx, h] at this
  cases this
theorem day_yes {m0 m1 m2 : Nat} {ce s : Int} {l : List S56} (h2 : 2 ≤ (l.length : Int)) (H : ∀ j : Nat, j < l.length → stepB m0 m1 m2 ce s ((l.length : Int) - 1) (j : Int) (l.getD j z56) = true) : dayB m0 m1 m2 ce s l = true := by
  unfold dayB
  rw [Bool.and_eq_true, List.all_eq_true]
  exact ⟨decide_eq_true h2, fun j hj => H j (List.mem_range.1 hj)⟩
theorem idx_step {α : Type} {p : Int → α → Bool} {l : List α} {z : α} {i : Int} {x : α} (hi : 0 ≤ i) (H : ∀ j : Nat, j < i.toNat → p (j : Int) (l.getD j z) = true) (hx : x = l.getD i.toNat z) (h : p i x = true) : ∀ j : Nat, j < (i + 1).toNat → p (j : Int) (l.getD j z) = true := by
  intro j hj
  by_cases e : j = i.toNat
  · rw [e, ← hx, Int.toNat_of_nonneg hi]; exact h
  · exact H j (by omega)
set_option maxRecDepth 100000 in
set_option maxHeartbeats 4000000 in
theorem day_calls (w0 : World) (R : List Asn) (gu g0 g1 g2 m0 m1 m2 : Nat) (b0 b1 b2 : List Bool) (A0 : Option Addr) (n0 c0 : Nat) (A1 : Option Addr) (n1 c1 : Nat) (A2 : Option Addr) (n2 c2 : Nat) (h ce s st : Int) (A7 : Option Addr) (n7 c7 : Nat) (A : Option Addr) (c : Nat) (l : List S56) (w : World) (e0 : b0.length = m0) (e1 : b1.length = m1) (e2 : b2.length = m2) (lk : Lk w0) (hr : k56.C w0 A l.length l)
    (hS : St w0 w (Box gu #[.slice (some ⟨g0, 0, none⟩) m0 m0, .slice (some ⟨g1, 0, none⟩) m1 m1, .slice (some ⟨g2, 0, none⟩) m2 m2] 60 :: Box g2 (bv b2) 4 :: Box g1 (bv b1) 4 :: Box g0 (bv b0) 4 :: R)) :
    Calls Tryd.prog 23 #[.pointer (some ⟨gu, 0, none⟩), .agg #[.slice A0 n0 c0, .slice A1 n1 c1, .slice A2 n2 c2, .int .i64 h, .int .i64 ce, .int .i64 s, .int .i64 st, .slice A7 n7 c7], .slice A l.length c] w fun e w' => ∃ d0 d1 d2 : List Bool, d0.length = m0 ∧ d1.length = m1 ∧ d2.length = m2 ∧ e = .returned (.bool (dayB m0 m1 m2 ce s l)) ∧ (dayB m0 m1 m2 ce s l = true → d0 = use 3 l b0 ∧ d1 = use 28 l b1 ∧ d2 = use 1 l b2) ∧ St w0 w' (Box gu #[.slice (some ⟨g0, 0, none⟩) m0 m0, .slice (some ⟨g1, 0, none⟩) m1 m1, .slice (some ⟨g2, 0, none⟩) m2 m2] 60 :: Box g2 (bv d2) 4 :: Box g1 (bv d1) 4 :: Box g0 (bv d0) 4 :: R) := by
  have HS0 := Aside0.mk hS
  have LK := Aside0.mk lk
  have HR := Aside0.mk hr
  have hm := C_max hr
  clear hS lk hr
  go_enter Tryd.func23, Tryd.ntmps23
  go_upto_region 1 with (fail)
  obtain ⟨W1_, hW3_⟩ : ∃ W, W = (w.alloc (.cells #[.slice A0 n0 c0, .slice A1 n1 c1, .slice A2 n2 c2, .int .i64 h, .int .i64 ce, .int .i64 s, .int .i64 st, .slice A7 n7 c7] 26 (0, 0))) := ⟨_, rfl⟩
  obtain ⟨g4_, hg5_⟩ : ∃ g, g = w.heap.size := ⟨_, rfl⟩
  have HS2_ : Aside0 (KitW.St w0 W1_ (Box g4_ #[.slice A0 n0 c0, .slice A1 n1 c1, .slice A2 n2 c2, .int .i64 h, .int .i64 ce, .int .i64 s, .int .i64 st, .slice A7 n7 c7] 26 :: Box gu #[.slice (some ⟨g0, 0, none⟩) m0 m0, .slice (some ⟨g1, 0, none⟩) m1 m1, .slice (some ⟨g2, 0, none⟩) m2 m2] 60 :: Box g2 (bv b2) 4 :: Box g1 (bv b1) 4 :: Box g0 (bv b0) 4 :: R)) := by rw [hW3_, hg5_]; exact ⟨by simpa [bv_set] using (HS0.out.allocF #[.slice A0 n0 c0, .slice A1 n1 c1, .slice A2 n2 c2, .int .i64 h, .int .i64 ce, .int .i64 s, .int .i64 st, .slice A7 n7 c7] 26)⟩
  rw [← hW3_, ← hg5_]
  clear hW3_ hg5_ HS0
  by_cases c6_ : ((l.length : Nat) : Int) - 1 < 1
  ·
   have c6_A := Aside0.mk c6_
   have c6_1 : decide (((l.length : Nat) : Int) - 1 < 1) = true := by simpa using c6_
   go_wp2
   go_ret
   have HS7_ : Aside0 (KitW.St w0 W1_ (Box gu #[.slice (some ⟨g0, 0, none⟩) m0 m0, .slice (some ⟨g1, 0, none⟩) m1 m1, .slice (some ⟨g2, 0, none⟩) m2 m2] 60 :: Box g2 (bv b2) 4 :: Box g1 (bv b1) 4 :: Box g0 (bv b0) 4 :: R)) := ⟨HS2_.out.drop 1⟩
   clear HS2_
   have kk : dayB m0 m1 m2 ce s l = false := by unfold dayB; rw [decide_eq_false (by omega)]; rfl
   exact ⟨_, _, _, e0, e1, e2, by rw [kk]; rfl, fun h => (by rw [kk] at h; cases h), HS7_.out⟩
  ·
   have c6_1 : decide (((l.length : Nat) : Int) - 1 < 1) = false := by simpa using c6_
   have c6_2 : 1 ≤ ((l.length : Nat) : Int) - 1 := by omega
   have c6_A := Aside0.mk c6_2
   clear c6_
   go_wp2
   have HS8_ : Aside0 (KitW.St w0 W1_ (Box gu #[.slice (some ⟨g0, 0, none⟩) m0 m0, .slice (some ⟨g1, 0, none⟩) m1 m1, .slice (some ⟨g2, 0, none⟩) m2 m2] 60 :: Box g2 (bv b2) 4 :: Box g1 (bv b1) 4 :: Box g0 (bv b0) 4 :: Box g4_ #[.slice A0 n0 c0, .slice A1 n1 c1, .slice A2 n2 c2, .int .i64 h, .int .i64 ce, .int .i64 s, .int .i64 st, .slice A7 n7 c7] 26 :: R)) := ⟨St.rot [Box g4_ #[.slice A0 n0 c0, .slice A1 n1 c1, .slice A2 n2 c2, .int .i64 h, .int .i64 ce, .int .i64 s, .int .i64 st, .slice A7 n7 c7] 26] [Box gu #[.slice (some ⟨g0, 0, none⟩) m0 m0, .slice (some ⟨g1, 0, none⟩) m1 m1, .slice (some ⟨g2, 0, none⟩) m2 m2] 60, Box g2 (bv b2) 4, Box g1 (bv b1) 4, Box g0 (bv b0) 4] HS2_.out⟩
   clear HS2_
   go_loopg [17, 8, 9] l.length (fun g v _ _ W => ∃ (i : Int) (d0 d1 d2 : List Bool), v = .int .i64 i ∧ 0 ≤ i ∧ (g : Int) + i = (l.length : Int) ∧ d0.length = m0 ∧ d1.length = m1 ∧ d2.length = m2 ∧ Aside0 (∀ j : Nat, j < i.toNat → stepB m0 m1 m2 ce s ((l.length : Int) - 1) (j : Int) (l.getD j z56) = true) ∧ Aside0 (d0 = use 3 (l.take i.toNat) b0 ∧ d1 = use 28 (l.take i.toNat) b1 ∧ d2 = use 1 (l.take i.toNat) b2) ∧ Aside0 (St w0 W (Box gu #[.slice (some ⟨g0, 0, none⟩) m0 m0, .slice (some ⟨g1, 0, none⟩) m1 m1, .slice (some ⟨g2, 0, none⟩) m2 m2] 60 :: Box g2 (bv d2) 4 :: Box g1 (bv d1) 4 :: Box g0 (bv d0) 4 :: Box g4_ #[.slice A0 n0 c0, .slice A1 n1 c1, .slice A2 n2 c2, .int .i64 h, .int .i64 ce, .int .i64 s, .int .i64 st, .slice A7 n7 c7] 26 :: R)))
   case atStart => exact ⟨0, b0, b1, b2, rfl, by omega, by omega, e0, e1, e2, ⟨fun j hj => by simp at hj⟩, ⟨rfl, rfl, rfl⟩, HS8_⟩
   case round =>
    revert wr gk
    intro gk9_ wr10_ hrel hK_
    obtain ⟨i, d0, d1, d2, rfl, hi, hg, hd0, hd1, hd2, HI, HU, HSr⟩ := hrel
    by_cases c11_ : i < ((l.length : Nat) : Int)
    ·
     have c11_A := Aside0.mk c11_
     have c11_1 : decide (i < ((l.length : Nat) : Int)) = true := by simpa using c11_
     obtain ⟨a12_, rfl⟩ := C_some HR.out (by omega)
     have E14_0 : 0 ≤ i := by omega
     have E14_1 : i < (l.length : Int) := by omega
     obtain ⟨x13_, hx13_⟩ : ∃ x, x = l.getD (i).toNat z56 := ⟨_, rfl⟩
     obtain ⟨E14_c, E14_K, E14_G⟩ := C_at HR.out z56 (i) (by omega) (by omega)
     rw [← hx13_] at E14_K
     obtain rfl := k56_open E14_K
     have E14_F0 : Aside0 (w0.cell? (a12_.add ((i).toNat * 3)) = some (.int .i64 x13_.f0)) := ⟨by exact E14_G 0 _ rfl⟩
     have E14_F1 : Aside0 (w0.cell? ⟨(a12_.add ((i).toNat * 3)).block, (a12_.add ((i).toNat * 3)).off + 1, none⟩ = some (.int .i64 x13_.f1)) := ⟨by rw [← add_field _ _ 1 (by omega)]; exact E14_G 1 _ rfl⟩
     have E14_F2 : Aside0 (w0.cell? ⟨(a12_.add ((i).toNat * 3)).block, (a12_.add ((i).toNat * 3)).off + 2, none⟩ = some (.int .i64 x13_.f2)) := ⟨by rw [← add_field _ _ 2 (by omega)]; exact E14_G 2 _ rfl⟩
     have Hx13_ := Aside0.mk hx13_
     clear hx13_ E14_K E14_G
     have qe0 : wr10_.cell? (a12_.add ((i).toNat * 3)) = some (.int .i64 x13_.f0) := pw_cell_below HSr.out.B E14_F0.out
     have qe1 : wr10_.cell? ⟨(a12_.add ((i).toNat * 3)).block, (a12_.add ((i).toNat * 3)).off + 1, none⟩ = some (.int .i64 x13_.f1) := pw_cell_below HSr.out.B E14_F1.out
     have qe2 : wr10_.cell? ⟨(a12_.add ((i).toNat * 3)).block, (a12_.add ((i).toNat * 3)).off + 2, none⟩ = some (.int .i64 x13_.f2) := pw_cell_below HSr.out.B E14_F2.out
     go_upto_region 7 with (fail)
     clear qe0 qe1 qe2
     obtain ⟨W15_, hW17_⟩ : ∃ W, W = (wr10_.alloc (.cells #[.int .i64 x13_.f0, .int .i64 x13_.f1, .int .i64 x13_.f2] 56 (0, 0))) := ⟨_, rfl⟩
     obtain ⟨g18_, hg19_⟩ : ∃ g, g = wr10_.heap.size := ⟨_, rfl⟩
     have HS16_ : Aside0 (KitW.St w0 W15_ (Box g18_ #[.int .i64 x13_.f0, .int .i64 x13_.f1, .int .i64 x13_.f2] 56 :: Box gu #[.slice (some ⟨g0, 0, none⟩) m0 m0, .slice (some ⟨g1, 0, none⟩) m1 m1, .slice (some ⟨g2, 0, none⟩) m2 m2] 60 :: Box g2 (bv d2) 4 :: Box g1 (bv d1) 4 :: Box g0 (bv d0) 4 :: Box g4_ #[.slice A0 n0 c0, .slice A1 n1 c1, .slice A2 n2 c2, .int .i64 h, .int .i64 ce, .int .i64 s, .int .i64 st, .slice A7 n7 c7] 26 :: R)) := by rw [hW17_, hg19_]; exact ⟨by simpa [bv_set] using (HSr.out.allocF #[.int .i64 x13_.f0, .int .i64 x13_.f1, .int .i64 x13_.f2] 56)⟩
     rw [← hW17_, ← hg19_]
     clear hW17_ hg19_ HSr
     by_cases c20_ : (vr x13_.f0 x13_.f1 x13_.f2) = 0
     ·
      have c20_A := Aside0.mk c20_
      have c20_1 : ((vr x13_.f0 x13_.f1 x13_.f2) == 0) = true := by simpa using c20_
      have c20_2 : ((vr x13_.f0 x13_.f1 x13_.f2) != 0) = false := by simpa using c20_
      clear c20_
      by_cases c21_ : ((x13_.f0 == 0) == (i == ((l.length : Nat) : Int) - 1)) = true
      ·
       have c21_A := Aside0.mk c21_
       have c21_1 := c21_A.out
       clear c21_
       by_cases c22_ : (insB m0 m1 m2 ce s x13_.f0 x13_.f1) = true
       ·
        have c22_A := Aside0.mk c22_
        clear c22_
        obtain ⟨q0_0, q0_1, q0_2, z0_0, z0_1, z0_2⟩ := HS16_.out.c3 0 rfl
        have qe0 : W15_.cell? (a12_.add ((i).toNat * 3)) = some (.int .i64 x13_.f0) := pw_cell_below HS16_.out.B E14_F0.out
        have qe1 : W15_.cell? ⟨(a12_.add ((i).toNat * 3)).block, (a12_.add ((i).toNat * 3)).off + 1, none⟩ = some (.int .i64 x13_.f1) := pw_cell_below HS16_.out.B E14_F1.out
        have qe2 : W15_.cell? ⟨(a12_.add ((i).toNat * 3)).block, (a12_.add ((i).toNat * 3)).off + 2, none⟩ = some (.int .i64 x13_.f2) := pw_cell_below HS16_.out.B E14_F2.out
        go_wp2_with (go_at_call 51; refine stop ?_)
        refine Stop.mk ?_
        refine (valid_calls x13_.f0 x13_.f1 x13_.f2 _ (LK.out.below HS16_.out.B)).mono ?_
        rintro e W23_ ⟨rfl, k25_⟩
        clear q0_0 q0_1 q0_2 z0_0 z0_1 z0_2 qe0 qe1 qe2
        have HS24_ := Aside0.mk (HS16_.out.below k25_)
        clear k25_ HS16_
        obtain ⟨q0_0, q0_1, q0_2, z0_0, z0_1, z0_2⟩ := HS24_.out.c3 0 rfl
        obtain ⟨q5_0, q5_1, q5_2, q5_3, q5_4, q5_5, q5_6, q5_7, z5_0, z5_1, z5_2, z5_3, z5_4, z5_5, z5_6, z5_7⟩ := HS24_.out.c8 5 rfl
        have qe0 : W23_.cell? (a12_.add ((i).toNat * 3)) = some (.int .i64 x13_.f0) := pw_cell_below HS24_.out.B E14_F0.out
        have qe1 : W23_.cell? ⟨(a12_.add ((i).toNat * 3)).block, (a12_.add ((i).toNat * 3)).off + 1, none⟩ = some (.int .i64 x13_.f1) := pw_cell_below HS24_.out.B E14_F1.out
        have qe2 : W23_.cell? ⟨(a12_.add ((i).toNat * 3)).block, (a12_.add ((i).toNat * 3)).off + 2, none⟩ = some (.int .i64 x13_.f2) := pw_cell_below HS24_.out.B E14_F2.out
        go_wp2_with (go_at_call 52; refine stop ?_)
        refine Stop.mk ?_
        have ha0 := vr_le c20_A.out
        clear q0_0 q0_1 q0_2 z0_0 z0_1 z0_2 q5_0 q5_1 q5_2 q5_3 q5_4 q5_5 q5_6 q5_7 z5_0 z5_1 z5_2 z5_3 z5_4 z5_5 z5_6 z5_7 qe0 qe1 qe2
        have HS26_ : Aside0 (KitW.St w0 W23_ (Box gu #[.slice (some ⟨g0, 0, none⟩) m0 m0, .slice (some ⟨g1, 0, none⟩) m1 m1, .slice (some ⟨g2, 0, none⟩) m2 m2] 60 :: Box g2 (bv d2) 4 :: Box g1 (bv d1) 4 :: Box g0 (bv d0) 4 :: Box g18_ #[.int .i64 x13_.f0, .int .i64 x13_.f1, .int .i64 x13_.f2] 56 :: Box g4_ #[.slice A0 n0 c0, .slice A1 n1 c1, .slice A2 n2 c2, .int .i64 h, .int .i64 ce, .int .i64 s, .int .i64 st, .slice A7 n7 c7] 26 :: R)) := ⟨St.rot [Box g18_ #[.int .i64 x13_.f0, .int .i64 x13_.f1, .int .i64 x13_.f2] 56] [Box gu #[.slice (some ⟨g0, 0, none⟩) m0 m0, .slice (some ⟨g1, 0, none⟩) m1 m1, .slice (some ⟨g2, 0, none⟩) m2 m2] 60, Box g2 (bv d2) 4, Box g1 (bv d1) 4, Box g0 (bv d0) 4] HS24_.out⟩
        clear HS24_
        refine (ins_calls _ _ _ _ _ _ _ _ _ _ _ _ _ _ _ _ _ _ _ _ _ _ _ _ _ _ _ _ _ _ _ _ hd0 hd1 hd2 ha0 HS26_.out).mono ?_
        rintro e W27_ ⟨rfl, k29_⟩
        have HS28_ : Aside0 (KitW.St w0 W27_ (Box gu #[.slice (some ⟨g0, 0, none⟩) m0 m0, .slice (some ⟨g1, 0, none⟩) m1 m1, .slice (some ⟨g2, 0, none⟩) m2 m2] 60 :: Box g2 (bv (upd 1 x13_.f0 x13_.f1 d2)) 4 :: Box g1 (bv (upd 28 x13_.f0 x13_.f1 d1)) 4 :: Box g0 (bv (upd 3 x13_.f0 x13_.f1 d0)) 4 :: Box g18_ #[.int .i64 x13_.f0, .int .i64 x13_.f1, .int .i64 x13_.f2] 56 :: Box g4_ #[.slice A0 n0 c0, .slice A1 n1 c1, .slice A2 n2 c2, .int .i64 h, .int .i64 ce, .int .i64 s, .int .i64 st, .slice A7 n7 c7] 26 :: R)) := ⟨k29_⟩
        clear k29_ HS26_
        rw [c22_A.out]
        have qe0 : W27_.cell? (a12_.add ((i).toNat * 3)) = some (.int .i64 x13_.f0) := pw_cell_below HS28_.out.B E14_F0.out
        have qe1 : W27_.cell? ⟨(a12_.add ((i).toNat * 3)).block, (a12_.add ((i).toNat * 3)).off + 1, none⟩ = some (.int .i64 x13_.f1) := pw_cell_below HS28_.out.B E14_F1.out
        have qe2 : W27_.cell? ⟨(a12_.add ((i).toNat * 3)).block, (a12_.add ((i).toNat * 3)).off + 2, none⟩ = some (.int .i64 x13_.f2) := pw_cell_below HS28_.out.B E14_F2.out
        go_wp2
        clear qe0 qe1 qe2
        have HS30_ : Aside0 (KitW.St w0 W27_ (Box g18_ #[.int .i64 x13_.f0, .int .i64 x13_.f1, .int .i64 x13_.f2] 56 :: Box gu #[.slice (some ⟨g0, 0, none⟩) m0 m0, .slice (some ⟨g1, 0, none⟩) m1 m1, .slice (some ⟨g2, 0, none⟩) m2 m2] 60 :: Box g2 (bv (upd 1 x13_.f0 x13_.f1 d2)) 4 :: Box g1 (bv (upd 28 x13_.f0 x13_.f1 d1)) 4 :: Box g0 (bv (upd 3 x13_.f0 x13_.f1 d0)) 4 :: Box g4_ #[.slice A0 n0 c0, .slice A1 n1 c1, .slice A2 n2 c2, .int .i64 h, .int .i64 ce, .int .i64 s, .int .i64 st, .slice A7 n7 c7] 26 :: R)) := ⟨St.rot [Box gu #[.slice (some ⟨g0, 0, none⟩) m0 m0, .slice (some ⟨g1, 0, none⟩) m1 m1, .slice (some ⟨g2, 0, none⟩) m2 m2] 60, Box g2 (bv (upd 1 x13_.f0 x13_.f1 d2)) 4, Box g1 (bv (upd 28 x13_.f0 x13_.f1 d1)) 4, Box g0 (bv (upd 3 x13_.f0 x13_.f1 d0)) 4] [Box g18_ #[.int .i64 x13_.f0, .int .i64 x13_.f1, .int .i64 x13_.f2] 56] HS28_.out⟩
        clear HS28_
        have HS31_ : Aside0 (KitW.St w0 W27_ (Box gu #[.slice (some ⟨g0, 0, none⟩) m0 m0, .slice (some ⟨g1, 0, none⟩) m1 m1, .slice (some ⟨g2, 0, none⟩) m2 m2] 60 :: Box g2 (bv (upd 1 x13_.f0 x13_.f1 d2)) 4 :: Box g1 (bv (upd 28 x13_.f0 x13_.f1 d1)) 4 :: Box g0 (bv (upd 3 x13_.f0 x13_.f1 d0)) 4 :: Box g4_ #[.slice A0 n0 c0, .slice A1 n1 c1, .slice A2 n2 c2, .int .i64 h, .int .i64 ce, .int .i64 s, .int .i64 st, .slice A7 n7 c7] 26 :: R)) := ⟨HS30_.out.drop 1⟩
        clear HS30_
        go_roundg (gk9_ - 1)
        case measure => omega
        case rel => exact ⟨i + 1, _, _, _, by go_num, by omega, by omega, by simp [upd_len, hd0], by simp [upd_len, hd1], by simp [upd_len, hd2], ⟨idx_step (p := stepB m0 m1 m2 ce s ((l.length : Int) - 1)) hi HI.out Hx13_.out (by unfold stepB; rw [show ((vr x13_.f0 x13_.f1 x13_.f2) == 0) = true from by rw [c20_A.out]; rfl, show ((x13_.f0 == 0) == (i == ((l.length : Nat) : Int) - 1)) = true from c21_A.out, c22_A.out]; first | done | rfl | simp)⟩, ⟨⟨by rw [HU.out.1]; exact use_step hi (by omega) Hx13_.out, by rw [HU.out.2.1]; exact use_step hi (by omega) Hx13_.out, by rw [HU.out.2.2]; exact use_step hi (by omega) Hx13_.out⟩⟩, HS31_⟩
       ·
        have c22_A := Aside0.mk (Bool.eq_false_iff.2 c22_)
        clear c22_
        obtain ⟨q0_0, q0_1, q0_2, z0_0, z0_1, z0_2⟩ := HS16_.out.c3 0 rfl
        have qe0 : W15_.cell? (a12_.add ((i).toNat * 3)) = some (.int .i64 x13_.f0) := pw_cell_below HS16_.out.B E14_F0.out
        have qe1 : W15_.cell? ⟨(a12_.add ((i).toNat * 3)).block, (a12_.add ((i).toNat * 3)).off + 1, none⟩ = some (.int .i64 x13_.f1) := pw_cell_below HS16_.out.B E14_F1.out
        have qe2 : W15_.cell? ⟨(a12_.add ((i).toNat * 3)).block, (a12_.add ((i).toNat * 3)).off + 2, none⟩ = some (.int .i64 x13_.f2) := pw_cell_below HS16_.out.B E14_F2.out
        go_wp2_with (go_at_call 51; refine stop ?_)
        refine Stop.mk ?_
        refine (valid_calls x13_.f0 x13_.f1 x13_.f2 _ (LK.out.below HS16_.out.B)).mono ?_
        rintro e W32_ ⟨rfl, k34_⟩
        clear q0_0 q0_1 q0_2 z0_0 z0_1 z0_2 qe0 qe1 qe2
        have HS33_ := Aside0.mk (HS16_.out.below k34_)
        clear k34_ HS16_
        obtain ⟨q0_0, q0_1, q0_2, z0_0, z0_1, z0_2⟩ := HS33_.out.c3 0 rfl
        obtain ⟨q5_0, q5_1, q5_2, q5_3, q5_4, q5_5, q5_6, q5_7, z5_0, z5_1, z5_2, z5_3, z5_4, z5_5, z5_6, z5_7⟩ := HS33_.out.c8 5 rfl
        have qe0 : W32_.cell? (a12_.add ((i).toNat * 3)) = some (.int .i64 x13_.f0) := pw_cell_below HS33_.out.B E14_F0.out
        have qe1 : W32_.cell? ⟨(a12_.add ((i).toNat * 3)).block, (a12_.add ((i).toNat * 3)).off + 1, none⟩ = some (.int .i64 x13_.f1) := pw_cell_below HS33_.out.B E14_F1.out
        have qe2 : W32_.cell? ⟨(a12_.add ((i).toNat * 3)).block, (a12_.add ((i).toNat * 3)).off + 2, none⟩ = some (.int .i64 x13_.f2) := pw_cell_below HS33_.out.B E14_F2.out
        go_wp2_with (go_at_call 52; refine stop ?_)
        refine Stop.mk ?_
        have ha0 := vr_le c20_A.out
        clear q0_0 q0_1 q0_2 z0_0 z0_1 z0_2 q5_0 q5_1 q5_2 q5_3 q5_4 q5_5 q5_6 q5_7 z5_0 z5_1 z5_2 z5_3 z5_4 z5_5 z5_6 z5_7 qe0 qe1 qe2
        have HS35_ : Aside0 (KitW.St w0 W32_ (Box gu #[.slice (some ⟨g0, 0, none⟩) m0 m0, .slice (some ⟨g1, 0, none⟩) m1 m1, .slice (some ⟨g2, 0, none⟩) m2 m2] 60 :: Box g2 (bv d2) 4 :: Box g1 (bv d1) 4 :: Box g0 (bv d0) 4 :: Box g18_ #[.int .i64 x13_.f0, .int .i64 x13_.f1, .int .i64 x13_.f2] 56 :: Box g4_ #[.slice A0 n0 c0, .slice A1 n1 c1, .slice A2 n2 c2, .int .i64 h, .int .i64 ce, .int .i64 s, .int .i64 st, .slice A7 n7 c7] 26 :: R)) := ⟨St.rot [Box g18_ #[.int .i64 x13_.f0, .int .i64 x13_.f1, .int .i64 x13_.f2] 56] [Box gu #[.slice (some ⟨g0, 0, none⟩) m0 m0, .slice (some ⟨g1, 0, none⟩) m1 m1, .slice (some ⟨g2, 0, none⟩) m2 m2] 60, Box g2 (bv d2) 4, Box g1 (bv d1) 4, Box g0 (bv d0) 4] HS33_.out⟩
        clear HS33_
        refine (ins_calls _ _ _ _ _ _ _ _ _ _ _ _ _ _ _ _ _ _ _ _ _ _ _ _ _ _ _ _ _ _ _ _ hd0 hd1 hd2 ha0 HS35_.out).mono ?_
        rintro e W36_ ⟨rfl, k38_⟩
        have HS37_ : Aside0 (KitW.St w0 W36_ (Box gu #[.slice (some ⟨g0, 0, none⟩) m0 m0, .slice (some ⟨g1, 0, none⟩) m1 m1, .slice (some ⟨g2, 0, none⟩) m2 m2] 60 :: Box g2 (bv (upd 1 x13_.f0 x13_.f1 d2)) 4 :: Box g1 (bv (upd 28 x13_.f0 x13_.f1 d1)) 4 :: Box g0 (bv (upd 3 x13_.f0 x13_.f1 d0)) 4 :: Box g18_ #[.int .i64 x13_.f0, .int .i64 x13_.f1, .int .i64 x13_.f2] 56 :: Box g4_ #[.slice A0 n0 c0, .slice A1 n1 c1, .slice A2 n2 c2, .int .i64 h, .int .i64 ce, .int .i64 s, .int .i64 st, .slice A7 n7 c7] 26 :: R)) := ⟨k38_⟩
        clear k38_ HS35_
        rw [c22_A.out]
        have qe0 : W36_.cell? (a12_.add ((i).toNat * 3)) = some (.int .i64 x13_.f0) := pw_cell_below HS37_.out.B E14_F0.out
        have qe1 : W36_.cell? ⟨(a12_.add ((i).toNat * 3)).block, (a12_.add ((i).toNat * 3)).off + 1, none⟩ = some (.int .i64 x13_.f1) := pw_cell_below HS37_.out.B E14_F1.out
        have qe2 : W36_.cell? ⟨(a12_.add ((i).toNat * 3)).block, (a12_.add ((i).toNat * 3)).off + 2, none⟩ = some (.int .i64 x13_.f2) := pw_cell_below HS37_.out.B E14_F2.out
        go_wp2
        go_ret
        clear qe0 qe1 qe2
        have HS39_ : Aside0 (KitW.St w0 W36_ (Box g18_ #[.int .i64 x13_.f0, .int .i64 x13_.f1, .int .i64 x13_.f2] 56 :: Box gu #[.slice (some ⟨g0, 0, none⟩) m0 m0, .slice (some ⟨g1, 0, none⟩) m1 m1, .slice (some ⟨g2, 0, none⟩) m2 m2] 60 :: Box g2 (bv (upd 1 x13_.f0 x13_.f1 d2)) 4 :: Box g1 (bv (upd 28 x13_.f0 x13_.f1 d1)) 4 :: Box g0 (bv (upd 3 x13_.f0 x13_.f1 d0)) 4 :: Box g4_ #[.slice A0 n0 c0, .slice A1 n1 c1, .slice A2 n2 c2, .int .i64 h, .int .i64 ce, .int .i64 s, .int .i64 st, .slice A7 n7 c7] 26 :: R)) := ⟨St.rot [Box gu #[.slice (some ⟨g0, 0, none⟩) m0 m0, .slice (some ⟨g1, 0, none⟩) m1 m1, .slice (some ⟨g2, 0, none⟩) m2 m2] 60, Box g2 (bv (upd 1 x13_.f0 x13_.f1 d2)) 4, Box g1 (bv (upd 28 x13_.f0 x13_.f1 d1)) 4, Box g0 (bv (upd 3 x13_.f0 x13_.f1 d0)) 4] [Box g18_ #[.int .i64 x13_.f0, .int .i64 x13_.f1, .int .i64 x13_.f2] 56] HS37_.out⟩
        clear HS37_
        have HS40_ : Aside0 (KitW.St w0 W36_ (Box gu #[.slice (some ⟨g0, 0, none⟩) m0 m0, .slice (some ⟨g1, 0, none⟩) m1 m1, .slice (some ⟨g2, 0, none⟩) m2 m2] 60 :: Box g2 (bv (upd 1 x13_.f0 x13_.f1 d2)) 4 :: Box g1 (bv (upd 28 x13_.f0 x13_.f1 d1)) 4 :: Box g0 (bv (upd 3 x13_.f0 x13_.f1 d0)) 4 :: Box g4_ #[.slice A0 n0 c0, .slice A1 n1 c1, .slice A2 n2 c2, .int .i64 h, .int .i64 ce, .int .i64 s, .int .i64 st, .slice A7 n7 c7] 26 :: R)) := ⟨HS39_.out.drop 1⟩
        clear HS39_
        have HS41_ : Aside0 (KitW.St w0 W36_ (Box g4_ #[.slice A0 n0 c0, .slice A1 n1 c1, .slice A2 n2 c2, .int .i64 h, .int .i64 ce, .int .i64 s, .int .i64 st, .slice A7 n7 c7] 26 :: Box gu #[.slice (some ⟨g0, 0, none⟩) m0 m0, .slice (some ⟨g1, 0, none⟩) m1 m1, .slice (some ⟨g2, 0, none⟩) m2 m2] 60 :: Box g2 (bv (upd 1 x13_.f0 x13_.f1 d2)) 4 :: Box g1 (bv (upd 28 x13_.f0 x13_.f1 d1)) 4 :: Box g0 (bv (upd 3 x13_.f0 x13_.f1 d0)) 4 :: R)) := ⟨St.rot [Box gu #[.slice (some ⟨g0, 0, none⟩) m0 m0, .slice (some ⟨g1, 0, none⟩) m1 m1, .slice (some ⟨g2, 0, none⟩) m2 m2] 60, Box g2 (bv (upd 1 x13_.f0 x13_.f1 d2)) 4, Box g1 (bv (upd 28 x13_.f0 x13_.f1 d1)) 4, Box g0 (bv (upd 3 x13_.f0 x13_.f1 d0)) 4] [Box g4_ #[.slice A0 n0 c0, .slice A1 n1 c1, .slice A2 n2 c2, .int .i64 h, .int .i64 ce, .int .i64 s, .int .i64 st, .slice A7 n7 c7] 26] HS40_.out⟩
        clear HS40_
        have HS42_ : Aside0 (KitW.St w0 W36_ (Box gu #[.slice (some ⟨g0, 0, none⟩) m0 m0, .slice (some ⟨g1, 0, none⟩) m1 m1, .slice (some ⟨g2, 0, none⟩) m2 m2] 60 :: Box g2 (bv (upd 1 x13_.f0 x13_.f1 d2)) 4 :: Box g1 (bv (upd 28 x13_.f0 x13_.f1 d1)) 4 :: Box g0 (bv (upd 3 x13_.f0 x13_.f1 d0)) 4 :: R)) := ⟨HS41_.out.drop 1⟩
        clear HS41_
        have kk := day_no (m0 := m0) (m1 := m1) (m2 := m2) (ce := ce) (s := s) hi (by omega) Hx13_.out (by unfold stepB; rw [show ((vr x13_.f0 x13_.f1 x13_.f2) == 0) = true from by rw [c20_A.out]; rfl, show ((x13_.f0 == 0) == (i == ((l.length : Nat) : Int) - 1)) = true from c21_A.out, c22_A.out]; first | done | rfl | simp)
        exact ⟨_, _, _, by simp [upd_len, hd0], by simp [upd_len, hd1], by simp [upd_len, hd2], by rw [kk]; rfl, fun h => (by rw [kk] at h; cases h), HS42_.out⟩
      ·
       have c21_A := Aside0.mk (Bool.eq_false_iff.2 c21_)
       have c21_1 := c21_A.out
       clear c21_
       obtain ⟨q0_0, q0_1, q0_2, z0_0, z0_1, z0_2⟩ := HS16_.out.c3 0 rfl
       have qe0 : W15_.cell? (a12_.add ((i).toNat * 3)) = some (.int .i64 x13_.f0) := pw_cell_below HS16_.out.B E14_F0.out
       have qe1 : W15_.cell? ⟨(a12_.add ((i).toNat * 3)).block, (a12_.add ((i).toNat * 3)).off + 1, none⟩ = some (.int .i64 x13_.f1) := pw_cell_below HS16_.out.B E14_F1.out
       have qe2 : W15_.cell? ⟨(a12_.add ((i).toNat * 3)).block, (a12_.add ((i).toNat * 3)).off + 2, none⟩ = some (.int .i64 x13_.f2) := pw_cell_below HS16_.out.B E14_F2.out
       go_wp2_with (go_at_call 51; refine stop ?_)
       refine Stop.mk ?_
       refine (valid_calls x13_.f0 x13_.f1 x13_.f2 _ (LK.out.below HS16_.out.B)).mono ?_
       rintro e W43_ ⟨rfl, k45_⟩
       clear q0_0 q0_1 q0_2 z0_0 z0_1 z0_2 qe0 qe1 qe2
       have HS44_ := Aside0.mk (HS16_.out.below k45_)
       clear k45_ HS16_
       obtain ⟨q0_0, q0_1, q0_2, z0_0, z0_1, z0_2⟩ := HS44_.out.c3 0 rfl
       have qe0 : W43_.cell? (a12_.add ((i).toNat * 3)) = some (.int .i64 x13_.f0) := pw_cell_below HS44_.out.B E14_F0.out
       have qe1 : W43_.cell? ⟨(a12_.add ((i).toNat * 3)).block, (a12_.add ((i).toNat * 3)).off + 1, none⟩ = some (.int .i64 x13_.f1) := pw_cell_below HS44_.out.B E14_F1.out
       have qe2 : W43_.cell? ⟨(a12_.add ((i).toNat * 3)).block, (a12_.add ((i).toNat * 3)).off + 2, none⟩ = some (.int .i64 x13_.f2) := pw_cell_below HS44_.out.B E14_F2.out
       go_wp2
       go_ret
       clear q0_0 q0_1 q0_2 z0_0 z0_1 z0_2 qe0 qe1 qe2
       have HS46_ : Aside0 (KitW.St w0 W43_ (Box gu #[.slice (some ⟨g0, 0, none⟩) m0 m0, .slice (some ⟨g1, 0, none⟩) m1 m1, .slice (some ⟨g2, 0, none⟩) m2 m2] 60 :: Box g2 (bv d2) 4 :: Box g1 (bv d1) 4 :: Box g0 (bv d0) 4 :: Box g4_ #[.slice A0 n0 c0, .slice A1 n1 c1, .slice A2 n2 c2, .int .i64 h, .int .i64 ce, .int .i64 s, .int .i64 st, .slice A7 n7 c7] 26 :: R)) := ⟨HS44_.out.drop 1⟩
       clear HS44_
       have HS47_ : Aside0 (KitW.St w0 W43_ (Box g4_ #[.slice A0 n0 c0, .slice A1 n1 c1, .slice A2 n2 c2, .int .i64 h, .int .i64 ce, .int .i64 s, .int .i64 st, .slice A7 n7 c7] 26 :: Box gu #[.slice (some ⟨g0, 0, none⟩) m0 m0, .slice (some ⟨g1, 0, none⟩) m1 m1, .slice (some ⟨g2, 0, none⟩) m2 m2] 60 :: Box g2 (bv d2) 4 :: Box g1 (bv d1) 4 :: Box g0 (bv d0) 4 :: R)) := ⟨St.rot [Box gu #[.slice (some ⟨g0, 0, none⟩) m0 m0, .slice (some ⟨g1, 0, none⟩) m1 m1, .slice (some ⟨g2, 0, none⟩) m2 m2] 60, Box g2 (bv d2) 4, Box g1 (bv d1) 4, Box g0 (bv d0) 4] [Box g4_ #[.slice A0 n0 c0, .slice A1 n1 c1, .slice A2 n2 c2, .int .i64 h, .int .i64 ce, .int .i64 s, .int .i64 st, .slice A7 n7 c7] 26] HS46_.out⟩
       clear HS46_
       have HS48_ : Aside0 (KitW.St w0 W43_ (Box gu #[.slice (some ⟨g0, 0, none⟩) m0 m0, .slice (some ⟨g1, 0, none⟩) m1 m1, .slice (some ⟨g2, 0, none⟩) m2 m2] 60 :: Box g2 (bv d2) 4 :: Box g1 (bv d1) 4 :: Box g0 (bv d0) 4 :: R)) := ⟨HS47_.out.drop 1⟩
       clear HS47_
       have kk := day_no (m0 := m0) (m1 := m1) (m2 := m2) (ce := ce) (s := s) hi (by omega) Hx13_.out (by unfold stepB; rw [show ((vr x13_.f0 x13_.f1 x13_.f2) == 0) = true from by rw [c20_A.out]; rfl, show ((x13_.f0 == 0) == (i == ((l.length : Nat) : Int) - 1)) = false from c21_A.out]; first | done | rfl | simp)
       exact ⟨_, _, _, by simp [upd_len, hd0], by simp [upd_len, hd1], by simp [upd_len, hd2], by rw [kk]; rfl, fun h => (by rw [kk] at h; cases h), HS48_.out⟩
     ·
      have c20_A := Aside0.mk c20_
      have c20_1 : ((vr x13_.f0 x13_.f1 x13_.f2) == 0) = false := by simpa using c20_
      have c20_2 : ((vr x13_.f0 x13_.f1 x13_.f2) != 0) = true := by simpa using c20_
      clear c20_
      obtain ⟨q0_0, q0_1, q0_2, z0_0, z0_1, z0_2⟩ := HS16_.out.c3 0 rfl
      have qe0 : W15_.cell? (a12_.add ((i).toNat * 3)) = some (.int .i64 x13_.f0) := pw_cell_below HS16_.out.B E14_F0.out
      have qe1 : W15_.cell? ⟨(a12_.add ((i).toNat * 3)).block, (a12_.add ((i).toNat * 3)).off + 1, none⟩ = some (.int .i64 x13_.f1) := pw_cell_below HS16_.out.B E14_F1.out
      have qe2 : W15_.cell? ⟨(a12_.add ((i).toNat * 3)).block, (a12_.add ((i).toNat * 3)).off + 2, none⟩ = some (.int .i64 x13_.f2) := pw_cell_below HS16_.out.B E14_F2.out
      go_wp2_with (go_at_call 51; refine stop ?_)
      refine Stop.mk ?_
      refine (valid_calls x13_.f0 x13_.f1 x13_.f2 _ (LK.out.below HS16_.out.B)).mono ?_
      rintro e W49_ ⟨rfl, k51_⟩
      clear q0_0 q0_1 q0_2 z0_0 z0_1 z0_2 qe0 qe1 qe2
      have HS50_ := Aside0.mk (HS16_.out.below k51_)
      clear k51_ HS16_
      obtain ⟨q0_0, q0_1, q0_2, z0_0, z0_1, z0_2⟩ := HS50_.out.c3 0 rfl
      have qe0 : W49_.cell? (a12_.add ((i).toNat * 3)) = some (.int .i64 x13_.f0) := pw_cell_below HS50_.out.B E14_F0.out
      have qe1 : W49_.cell? ⟨(a12_.add ((i).toNat * 3)).block, (a12_.add ((i).toNat * 3)).off + 1, none⟩ = some (.int .i64 x13_.f1) := pw_cell_below HS50_.out.B E14_F1.out
      have qe2 : W49_.cell? ⟨(a12_.add ((i).toNat * 3)).block, (a12_.add ((i).toNat * 3)).off + 2, none⟩ = some (.int .i64 x13_.f2) := pw_cell_below HS50_.out.B E14_F2.out
      go_wp2
      go_ret
      clear q0_0 q0_1 q0_2 z0_0 z0_1 z0_2 qe0 qe1 qe2
      have HS52_ : Aside0 (KitW.St w0 W49_ (Box gu #[.slice (some ⟨g0, 0, none⟩) m0 m0, .slice (some ⟨g1, 0, none⟩) m1 m1, .slice (some ⟨g2, 0, none⟩) m2 m2] 60 :: Box g2 (bv d2) 4 :: Box g1 (bv d1) 4 :: Box g0 (bv d0) 4 :: Box g4_ #[.slice A0 n0 c0, .slice A1 n1 c1, .slice A2 n2 c2, .int .i64 h, .int .i64 ce, .int .i64 s, .int .i64 st, .slice A7 n7 c7] 26 :: R)) := ⟨HS50_.out.drop 1⟩
      clear HS50_
      have HS53_ : Aside0 (KitW.St w0 W49_ (Box g4_ #[.slice A0 n0 c0, .slice A1 n1 c1, .slice A2 n2 c2, .int .i64 h, .int .i64 ce, .int .i64 s, .int .i64 st, .slice A7 n7 c7] 26 :: Box gu #[.slice (some ⟨g0, 0, none⟩) m0 m0, .slice (some ⟨g1, 0, none⟩) m1 m1, .slice (some ⟨g2, 0, none⟩) m2 m2] 60 :: Box g2 (bv d2) 4 :: Box g1 (bv d1) 4 :: Box g0 (bv d0) 4 :: R)) := ⟨St.rot [Box gu #[.slice (some ⟨g0, 0, none⟩) m0 m0, .slice (some ⟨g1, 0, none⟩) m1 m1, .slice (some ⟨g2, 0, none⟩) m2 m2] 60, Box g2 (bv d2) 4, Box g1 (bv d1) 4, Box g0 (bv d0) 4] [Box g4_ #[.slice A0 n0 c0, .slice A1 n1 c1, .slice A2 n2 c2, .int .i64 h, .int .i64 ce, .int .i64 s, .int .i64 st, .slice A7 n7 c7] 26] HS52_.out⟩
      clear HS52_
      have HS54_ : Aside0 (KitW.St w0 W49_ (Box gu #[.slice (some ⟨g0, 0, none⟩) m0 m0, .slice (some ⟨g1, 0, none⟩) m1 m1, .slice (some ⟨g2, 0, none⟩) m2 m2] 60 :: Box g2 (bv d2) 4 :: Box g1 (bv d1) 4 :: Box g0 (bv d0) 4 :: R)) := ⟨HS53_.out.drop 1⟩
      clear HS53_
      have kk := day_no (m0 := m0) (m1 := m1) (m2 := m2) (ce := ce) (s := s) hi (by omega) Hx13_.out (by unfold stepB; rw [show ((vr x13_.f0 x13_.f1 x13_.f2) == 0) = false from by simpa using c20_A.out]; first | done | rfl | simp)
      exact ⟨_, _, _, by simp [upd_len, hd0], by simp [upd_len, hd1], by simp [upd_len, hd2], by rw [kk]; rfl, fun h => (by rw [kk] at h; cases h), HS54_.out⟩
    ·
     have c11_1 : decide (i < ((l.length : Nat) : Int)) = false := by simpa using c11_
     have c11_2 : ((l.length : Nat) : Int) ≤ i := by omega
     have c11_A := Aside0.mk c11_2
     clear c11_
     go_wp2
     go_ret
     have HS55_ : Aside0 (KitW.St w0 wr10_ (Box g4_ #[.slice A0 n0 c0, .slice A1 n1 c1, .slice A2 n2 c2, .int .i64 h, .int .i64 ce, .int .i64 s, .int .i64 st, .slice A7 n7 c7] 26 :: Box gu #[.slice (some ⟨g0, 0, none⟩) m0 m0, .slice (some ⟨g1, 0, none⟩) m1 m1, .slice (some ⟨g2, 0, none⟩) m2 m2] 60 :: Box g2 (bv d2) 4 :: Box g1 (bv d1) 4 :: Box g0 (bv d0) 4 :: R)) := ⟨St.rot [Box gu #[.slice (some ⟨g0, 0, none⟩) m0 m0, .slice (some ⟨g1, 0, none⟩) m1 m1, .slice (some ⟨g2, 0, none⟩) m2 m2] 60, Box g2 (bv d2) 4, Box g1 (bv d1) 4, Box g0 (bv d0) 4] [Box g4_ #[.slice A0 n0 c0, .slice A1 n1 c1, .slice A2 n2 c2, .int .i64 h, .int .i64 ce, .int .i64 s, .int .i64 st, .slice A7 n7 c7] 26] HSr.out⟩
     clear HSr
     have HS56_ : Aside0 (KitW.St w0 wr10_ (Box gu #[.slice (some ⟨g0, 0, none⟩) m0 m0, .slice (some ⟨g1, 0, none⟩) m1 m1, .slice (some ⟨g2, 0, none⟩) m2 m2] 60 :: Box g2 (bv d2) 4 :: Box g1 (bv d1) 4 :: Box g0 (bv d0) 4 :: R)) := ⟨HS55_.out.drop 1⟩
     clear HS55_
     have kk := day_yes (m0 := m0) (m1 := m1) (m2 := m2) (ce := ce) (s := s) (l := l) (by omega) (fun j hj => HI.out j (by omega))
     exact ⟨_, _, _, hd0, hd1, hd2, by rw [kk]; rfl, fun _ => ⟨by rw [HU.out.1, List.take_of_length_le (by omega)], by rw [HU.out.2.1, List.take_of_length_le (by omega)], by rw [HU.out.2.2, List.take_of_length_le (by omega)]⟩, HS56_.out⟩
end Cn
end Go.Proofs.YtmhndfnmdkeiaaaDoor
