/- What the small functions of layers 6 and 12 answer: rising lists, names, currencies, the lists of a program. No condition beyond the lists lengths. -/
import Derived.Test.YtmhndfnmdkeiaaaDoorRd
import Derived.Test.YtmhndfnmdkeiaaaDoorPCapitalx0
import Derived.Outline
namespace Go.Proofs.YtmhndfnmdkeiaaaDoor
open Go.RowKit Go.Proofs.YtmhndfnmdkeiaaaDoorW.PrintWords Go.Proofs.YtmhndfnmdkeiaaaDoorW.PrintLast Go.Proofs.YtmhndfnmdkeiaaaDoorW.PrintMore
open KitW
namespace Cn
set_option linter.unusedSimpArgs false
set_option linter.unusedVariables false
attribute [local go_sem] max2_int min2_int max_two min_two max_three min_three max_four min_four

set_option maxRecDepth 100000 in
set_option maxHeartbeats 4000000 in
theorem riseI_calls (A0 : Option Addr) (c0 : Nat) (l : List Int) (w : World) (hr : Kd.C (Kd.int .i64) w A0 l.length l) :
    Calls Tryd.prog 44 #[.slice A0 l.length c0] w fun e w' => e = .returned (.bool (up iLt l)) ∧ Below w.heap.size w w' := by
  have HR := Aside0.mk hr
  have hm := C_max hr
  clear hr
  have HS0 := Aside0.mk (St.start w)
  obtain ⟨n, hn⟩ : ∃ n, n = l.length := ⟨_, rfl⟩
  rw [← hn]
  rw [← hn] at HR hm
  have HN := Aside0.mk hn
  clear hn
  go_enter Tryd.func44, Tryd.ntmps44
  go_wp2
  go_loopg [3] n (fun g v W => ∃ i : Int, v = .int .i64 i ∧ 1 ≤ i ∧ (g : Int) + i = (n : Int) + 1 ∧ Aside0 (∀ j, j + 1 < i.toNat → iLt (l.getD j 0) (l.getD (j + 1) 0) = true) ∧ Aside0 (St w W []))
  case atStart => exact ⟨1, rfl, by omega, by omega, ⟨fun j hj => by simp at hj⟩, HS0⟩
  case round =>
   revert wr gk
   intro gk1_ wr2_ hrel hK_
   obtain ⟨i, rfl, hi, hg, HI, HSr⟩ := hrel
   have hi0 : 0 ≤ i := by omega
   by_cases c3_ : i < ((n : Nat) : Int)
   ·
    have c3_A := Aside0.mk c3_
    have c3_1 : decide (i < ((n : Nat) : Int)) = true := by simpa using c3_
    obtain ⟨a4_, rfl⟩ := C_some HR.out (by omega)
    have E6_0 : 0 ≤ i := by omega
    have E6_1 : i < (n : Int) := by omega
    obtain ⟨x5_, hx5_⟩ : ∃ x, x = l.getD (i).toNat 0 := ⟨_, rfl⟩
    have E6_ : Aside0 (w.cell? (a4_.add (i).toNat) = some (.int .i64 x5_)) := ⟨by rw [hx5_]; exact int_at HR.out (i) (by omega) (by omega)⟩
    have Hx5_ := Aside0.mk hx5_
    clear hx5_
    obtain ⟨p7_, h8_⟩ : ∃ p : Int, wrap64 (i - 1) = p := ⟨_, rfl⟩
    have h8_E : Aside0 (p7_ = i - 1) := ⟨by rw [← h8_]; unfold wrap64; omega⟩
    have E10_0 : 0 ≤ p7_ := by have := h8_E.out; omega
    have E10_1 : p7_ < (n : Int) := by have := h8_E.out; omega
    obtain ⟨x9_, hx9_⟩ : ∃ x, x = l.getD (p7_).toNat 0 := ⟨_, rfl⟩
    have E10_ : Aside0 (w.cell? (a4_.add (p7_).toNat) = some (.int .i64 x9_)) := ⟨by rw [hx9_]; exact int_at HR.out (p7_) (by omega) (by omega)⟩
    have Hx9_ := Aside0.mk hx9_
    clear hx9_
    by_cases c11_ : x5_ ≤ x9_
    ·
     have c11_A := Aside0.mk c11_
     have c11_1 : decide (x5_ ≤ x9_) = true := by simpa using c11_
     have HS12_ := Aside0.mk HSr.out.drew
     have qe0 : wr2_.cell? (a4_.add (i).toNat) = some (.int .i64 x5_) := pw_cell_below HSr.out.B E6_.out
     have qe1 : wr2_.cell? (a4_.add (p7_).toNat) = some (.int .i64 x9_) := pw_cell_below HSr.out.B E10_.out
     go_wp2
     refine start_ (n := 10) (S := fun w' => w'.cell? (a4_.add (i).toNat) = some (.int .i64 x5_) ∧ w'.cell? (a4_.add (p7_).toNat) = some (.int .i64 x9_)) (ds := []) #[false, false, false, false, false, false, false, false, false, false] (by kernel_rfl) rfl rfl ⟨(by go_simp), (by go_simp)⟩ (fun hHeld => ?_)
     refine pz 0 (some 10) (v := ?_) (a' := ?_) rfl rfl (by kernel_rfl) (fun _ _ _ h => h) (Or.inl ⟨by rfl, ?_⟩) ?_ ?_
     rotate_left
     · intro w'
       go_simp
       with_reducible rfl
     rotate_left
     · simp only [Act.put, List.setIfInBounds_toArray, List.set_cons_zero, List.set_cons_succ, i64_w, i32_w]
       rfl
     refine pz 1 (some 11) (v := ?_) (a' := ?_) rfl rfl (by kernel_rfl) (fun _ _ _ h => h) (Or.inl ⟨by rfl, ?_⟩) ?_ ?_
     rotate_left
     · intro w'
       go_simp
       with_reducible rfl
     rotate_left
     · simp only [Act.put, List.setIfInBounds_toArray, List.set_cons_zero, List.set_cons_succ, i64_w, i32_w]
       rfl
     refine pz 2 (some 12) (v := ?_) (a' := ?_) rfl rfl (by kernel_rfl) (fun _ _ _ h => h) (Or.inl ⟨by rfl, ?_⟩) ?_ ?_
     rotate_left
     · intro w'
       go_simp
       with_reducible rfl
     rotate_left
     · simp only [Act.put, List.setIfInBounds_toArray, List.set_cons_zero, List.set_cons_succ, i64_w, i32_w]
       rfl
     refine pz 4 (some 14) (v := ?_) (a' := ?_) rfl rfl (by kernel_rfl) (fun _ _ _ h => h) (Or.inl ⟨by rfl, ?_⟩) ?_ ?_
     rotate_left
     · intro w'
       go_simp
       with_reducible rfl
     rotate_left
     · simp only [Act.put, List.setIfInBounds_toArray, List.set_cons_zero, List.set_cons_succ, i64_w, i32_w]
       rfl
     refine pz 5 (some 15) (v := ?_) (a' := ?_) rfl rfl (by kernel_rfl) (fun _ _ _ h => h) (Or.inl ⟨by rfl, ?_⟩) ?_ ?_
     rotate_left
     · intro w'
       go_simp
       with_reducible rfl
     rotate_left
     · simp only [Act.put, List.setIfInBounds_toArray, List.set_cons_zero, List.set_cons_succ, i64_w, i32_w]
       rfl
     refine pz 6 (some 16) (v := ?_) (a' := ?_) rfl rfl (by kernel_rfl) (fun _ _ _ h => h) (Or.inl ⟨by rfl, ?_⟩) ?_ ?_
     rotate_left
     · intro w'
       go_simp
       with_reducible rfl
     rotate_left
     · simp only [Act.put, List.setIfInBounds_toArray, List.set_cons_zero, List.set_cons_succ, i64_w, i32_w]
       rfl
     refine pz 7 (some 17) (v := ?_) (a' := ?_) rfl rfl (by kernel_rfl) (fun _ _ _ h => h) (Or.inl ⟨by rfl, ?_⟩) ?_ ?_
     rotate_left
     · intro w'
       go_simp
       with_reducible rfl
     rotate_left
     · simp only [Act.put, List.setIfInBounds_toArray, List.set_cons_zero, List.set_cons_succ, i64_w, i32_w]
       rfl
     refine tz 3 (some 13) (v := ?_) (a' := ?_) rfl rfl (by kernel_rfl) (fun _ _ _ h => h) (Or.inl ⟨by rfl, ?_⟩) hHeld ?_ ?_
     rotate_left
     · rintro w' ⟨s0, s1⟩
       go_simp
       with_reducible rfl
     rotate_left
     · simp only [Act.put, List.setIfInBounds_toArray, List.set_cons_zero, List.set_cons_succ, i64_w, i32_w]
       rfl
     refine tz 8 (some 18) (v := ?_) (a' := ?_) rfl rfl (by kernel_rfl) (fun _ _ _ h => h) (Or.inl ⟨by rfl, ?_⟩) hHeld ?_ ?_
     rotate_left
     · rintro w' ⟨s0, s1⟩
       go_simp
       with_reducible rfl
     rotate_left
     · simp only [Act.put, List.setIfInBounds_toArray, List.set_cons_zero, List.set_cons_succ, i64_w, i32_w]
       rfl
     refine pz 9 (some 19) (v := ?_) (a' := ?_) rfl rfl (by kernel_rfl) (fun _ _ _ h => h) (Or.inl ⟨by rfl, ?_⟩) ?_ ?_
     rotate_left
     · intro w'
       go_simp
       with_reducible rfl
     rotate_left
     · simp only [Act.put, List.setIfInBounds_toArray, List.set_cons_zero, List.set_cons_succ, i64_w, i32_w]
       rfl
     refine done_ (by kernel_rfl) ?_
     clear qe0 qe1
     obtain ⟨W13_, hW15_⟩ : ∃ W, W = wr2_.drew := ⟨_, rfl⟩
     have HS14_ : Aside0 (KitW.St w W13_ []) := by rw [hW15_]; exact ⟨by simpa using HSr.out.drew⟩
     rw [← hW15_]
     clear hW15_ HSr
     have qe0 : W13_.cell? (a4_.add (i).toNat) = some (.int .i64 x5_) := pw_cell_below HS14_.out.B E6_.out
     have qe1 : W13_.cell? (a4_.add (p7_).toNat) = some (.int .i64 x9_) := pw_cell_below HS14_.out.B E10_.out
     go_wp2
     go_ret
     exact ⟨by rw [up_stop hi (by have := HN.out; omega) Hx5_.out h8_E.out Hx9_.out (by unfold iLt; have := c11_A.out; simp; omega)]; rfl, HS14_.out.B⟩
    ·
     have c11_1 : decide (x5_ ≤ x9_) = false := by simpa using c11_
     have c11_2 : x9_ < x5_ := by omega
     have c11_A := Aside0.mk c11_2
     clear c11_
     have HS16_ := Aside0.mk HSr.out.drew
     have qe0 : wr2_.cell? (a4_.add (i).toNat) = some (.int .i64 x5_) := pw_cell_below HSr.out.B E6_.out
     have qe1 : wr2_.cell? (a4_.add (p7_).toNat) = some (.int .i64 x9_) := pw_cell_below HSr.out.B E10_.out
     go_wp2
     refine start_ (n := 10) (S := fun w' => w'.cell? (a4_.add (i).toNat) = some (.int .i64 x5_) ∧ w'.cell? (a4_.add (p7_).toNat) = some (.int .i64 x9_)) (ds := []) #[false, false, false, false, false, false, false, false, false, false] (by kernel_rfl) rfl rfl ⟨(by go_simp), (by go_simp)⟩ (fun hHeld => ?_)
     refine pz 0 (some 10) (v := ?_) (a' := ?_) rfl rfl (by kernel_rfl) (fun _ _ _ h => h) (Or.inl ⟨by rfl, ?_⟩) ?_ ?_
     rotate_left
     · intro w'
       go_simp
       with_reducible rfl
     rotate_left
     · simp only [Act.put, List.setIfInBounds_toArray, List.set_cons_zero, List.set_cons_succ, i64_w, i32_w]
       rfl
     refine pz 1 (some 11) (v := ?_) (a' := ?_) rfl rfl (by kernel_rfl) (fun _ _ _ h => h) (Or.inl ⟨by rfl, ?_⟩) ?_ ?_
     rotate_left
     · intro w'
       go_simp
       with_reducible rfl
     rotate_left
     · simp only [Act.put, List.setIfInBounds_toArray, List.set_cons_zero, List.set_cons_succ, i64_w, i32_w]
       rfl
     refine pz 2 (some 12) (v := ?_) (a' := ?_) rfl rfl (by kernel_rfl) (fun _ _ _ h => h) (Or.inl ⟨by rfl, ?_⟩) ?_ ?_
     rotate_left
     · intro w'
       go_simp
       with_reducible rfl
     rotate_left
     · simp only [Act.put, List.setIfInBounds_toArray, List.set_cons_zero, List.set_cons_succ, i64_w, i32_w]
       rfl
     refine pz 4 (some 14) (v := ?_) (a' := ?_) rfl rfl (by kernel_rfl) (fun _ _ _ h => h) (Or.inl ⟨by rfl, ?_⟩) ?_ ?_
     rotate_left
     · intro w'
       go_simp
       with_reducible rfl
     rotate_left
     · simp only [Act.put, List.setIfInBounds_toArray, List.set_cons_zero, List.set_cons_succ, i64_w, i32_w]
       rfl
     refine pz 5 (some 15) (v := ?_) (a' := ?_) rfl rfl (by kernel_rfl) (fun _ _ _ h => h) (Or.inl ⟨by rfl, ?_⟩) ?_ ?_
     rotate_left
     · intro w'
       go_simp
       with_reducible rfl
     rotate_left
     · simp only [Act.put, List.setIfInBounds_toArray, List.set_cons_zero, List.set_cons_succ, i64_w, i32_w]
       rfl
     refine pz 6 (some 16) (v := ?_) (a' := ?_) rfl rfl (by kernel_rfl) (fun _ _ _ h => h) (Or.inl ⟨by rfl, ?_⟩) ?_ ?_
     rotate_left
     · intro w'
       go_simp
       with_reducible rfl
     rotate_left
     · simp only [Act.put, List.setIfInBounds_toArray, List.set_cons_zero, List.set_cons_succ, i64_w, i32_w]
       rfl
     refine pz 7 (some 17) (v := ?_) (a' := ?_) rfl rfl (by kernel_rfl) (fun _ _ _ h => h) (Or.inl ⟨by rfl, ?_⟩) ?_ ?_
     rotate_left
     · intro w'
       go_simp
       with_reducible rfl
     rotate_left
     · simp only [Act.put, List.setIfInBounds_toArray, List.set_cons_zero, List.set_cons_succ, i64_w, i32_w]
       rfl
     refine tz 3 (some 13) (v := ?_) (a' := ?_) rfl rfl (by kernel_rfl) (fun _ _ _ h => h) (Or.inl ⟨by rfl, ?_⟩) hHeld ?_ ?_
     rotate_left
     · rintro w' ⟨s0, s1⟩
       go_simp
       with_reducible rfl
     rotate_left
     · simp only [Act.put, List.setIfInBounds_toArray, List.set_cons_zero, List.set_cons_succ, i64_w, i32_w]
       rfl
     refine tz 8 (some 18) (v := ?_) (a' := ?_) rfl rfl (by kernel_rfl) (fun _ _ _ h => h) (Or.inl ⟨by rfl, ?_⟩) hHeld ?_ ?_
     rotate_left
     · rintro w' ⟨s0, s1⟩
       go_simp
       with_reducible rfl
     rotate_left
     · simp only [Act.put, List.setIfInBounds_toArray, List.set_cons_zero, List.set_cons_succ, i64_w, i32_w]
       rfl
     refine pz 9 (some 19) (v := ?_) (a' := ?_) rfl rfl (by kernel_rfl) (fun _ _ _ h => h) (Or.inl ⟨by rfl, ?_⟩) ?_ ?_
     rotate_left
     · intro w'
       go_simp
       with_reducible rfl
     rotate_left
     · simp only [Act.put, List.setIfInBounds_toArray, List.set_cons_zero, List.set_cons_succ, i64_w, i32_w]
       rfl
     refine done_ (by kernel_rfl) ?_
     clear qe0 qe1
     obtain ⟨W17_, hW19_⟩ : ∃ W, W = wr2_.drew := ⟨_, rfl⟩
     have HS18_ : Aside0 (KitW.St w W17_ []) := by rw [hW19_]; exact ⟨by simpa using HSr.out.drew⟩
     rw [← hW19_]
     clear hW19_ HSr
     have qe0 : W17_.cell? (a4_.add (i).toNat) = some (.int .i64 x5_) := pw_cell_below HS18_.out.B E6_.out
     have qe1 : W17_.cell? (a4_.add (p7_).toNat) = some (.int .i64 x9_) := pw_cell_below HS18_.out.B E10_.out
     go_wp2
     go_roundg (gk1_ - 1)
     case measure => omega
     case rel => exact ⟨i + 1, by go_num, by omega, by omega, ⟨up_step HI.out hi Hx5_.out h8_E.out Hx9_.out (by unfold iLt; have := Int.not_le.2 c11_A.out; simp; omega)⟩, HS18_⟩
   ·
    have c3_1 : decide (i < ((n : Nat) : Int)) = false := by simpa using c3_
    have c3_2 : ((n : Nat) : Int) ≤ i := by omega
    have c3_A := Aside0.mk c3_2
    clear c3_
    go_wp2
    go_ret
    exact ⟨by rw [(up_iff iLt 0 l).2 (fun j hj => HI.out j (by have := HN.out; omega))]; rfl, HSr.out.B⟩
set_option maxRecDepth 100000 in
set_option maxHeartbeats 4000000 in
theorem riseS_calls (A0 : Option Addr) (c0 : Nat) (l : List ByteArray) (w : World) (hr : Kd.C Kd.string w A0 l.length l) :
    Calls Tryd.prog 43 #[.slice A0 l.length c0] w fun e w' => e = .returned (.bool (up sLt l)) ∧ Below w.heap.size w w' := by
  have HR := Aside0.mk hr
  have hm := C_max hr
  clear hr
  have HS0 := Aside0.mk (St.start w)
  obtain ⟨n, hn⟩ : ∃ n, n = l.length := ⟨_, rfl⟩
  rw [← hn]
  rw [← hn] at HR hm
  have HN := Aside0.mk hn
  clear hn
  go_enter Tryd.func43, Tryd.ntmps43
  go_wp2
  go_loopg [3] n (fun g v W => ∃ i : Int, v = .int .i64 i ∧ 1 ≤ i ∧ (g : Int) + i = (n : Int) + 1 ∧ Aside0 (∀ j, j + 1 < i.toNat → sLt (l.getD j ByteArray.empty) (l.getD (j + 1) ByteArray.empty) = true) ∧ Aside0 (St w W []))
  case atStart => exact ⟨1, rfl, by omega, by omega, ⟨fun j hj => by simp at hj⟩, HS0⟩
  case round =>
   revert wr gk
   intro gk1_ wr2_ hrel hK_
   obtain ⟨i, rfl, hi, hg, HI, HSr⟩ := hrel
   have hi0 : 0 ≤ i := by omega
   by_cases c3_ : i < ((n : Nat) : Int)
   ·
    have c3_A := Aside0.mk c3_
    have c3_1 : decide (i < ((n : Nat) : Int)) = true := by simpa using c3_
    obtain ⟨a4_, rfl⟩ := C_some HR.out (by omega)
    have E6_0 : 0 ≤ i := by omega
    have E6_1 : i < (n : Int) := by omega
    obtain ⟨x5_, hx5_⟩ : ∃ x, x = l.getD (i).toNat ByteArray.empty := ⟨_, rfl⟩
    have E6_ : Aside0 (w.cell? (a4_.add (i).toNat) = some (.string x5_)) := ⟨by rw [hx5_]; exact str_at HR.out (i) (by omega) (by omega)⟩
    have Hx5_ := Aside0.mk hx5_
    clear hx5_
    obtain ⟨p7_, h8_⟩ : ∃ p : Int, wrap64 (i - 1) = p := ⟨_, rfl⟩
    have h8_E : Aside0 (p7_ = i - 1) := ⟨by rw [← h8_]; unfold wrap64; omega⟩
    have E10_0 : 0 ≤ p7_ := by have := h8_E.out; omega
    have E10_1 : p7_ < (n : Int) := by have := h8_E.out; omega
    obtain ⟨x9_, hx9_⟩ : ∃ x, x = l.getD (p7_).toNat ByteArray.empty := ⟨_, rfl⟩
    have E10_ : Aside0 (w.cell? (a4_.add (p7_).toNat) = some (.string x9_)) := ⟨by rw [hx9_]; exact str_at HR.out (p7_) (by omega) (by omega)⟩
    have Hx9_ := Aside0.mk hx9_
    clear hx9_
    by_cases c11_ : (Go.Op.bytesLess x5_.toList x9_.toList) = true
    ·
     have c11_A := Aside0.mk c11_
     have c11_1 := c11_A.out
     clear c11_
     have HS12_ := Aside0.mk HSr.out.drew
     have qe0 : wr2_.cell? (a4_.add (i).toNat) = some (.string x5_) := pw_cell_below HSr.out.B E6_.out
     have qe1 : wr2_.cell? (a4_.add (p7_).toNat) = some (.string x9_) := pw_cell_below HSr.out.B E10_.out
     go_wp2
     refine start_ (n := 10) (S := fun w' => w'.cell? (a4_.add (i).toNat) = some (.string x5_) ∧ w'.cell? (a4_.add (p7_).toNat) = some (.string x9_)) (ds := []) #[false, false, false, false, false, false, false, false, false, false] (by kernel_rfl) rfl rfl ⟨(by go_simp), (by go_simp)⟩ (fun hHeld => ?_)
     refine pz 0 (some 10) (v := ?_) (a' := ?_) rfl rfl (by kernel_rfl) (fun _ _ _ h => h) (Or.inl ⟨by rfl, ?_⟩) ?_ ?_
     rotate_left
     · intro w'
       go_simp
       with_reducible rfl
     rotate_left
     · simp only [Act.put, List.setIfInBounds_toArray, List.set_cons_zero, List.set_cons_succ, i64_w, i32_w]
       rfl
     refine pz 1 (some 11) (v := ?_) (a' := ?_) rfl rfl (by kernel_rfl) (fun _ _ _ h => h) (Or.inl ⟨by rfl, ?_⟩) ?_ ?_
     rotate_left
     · intro w'
       go_simp
       with_reducible rfl
     rotate_left
     · simp only [Act.put, List.setIfInBounds_toArray, List.set_cons_zero, List.set_cons_succ, i64_w, i32_w]
       rfl
     refine pz 2 (some 12) (v := ?_) (a' := ?_) rfl rfl (by kernel_rfl) (fun _ _ _ h => h) (Or.inl ⟨by rfl, ?_⟩) ?_ ?_
     rotate_left
     · intro w'
       go_simp
       with_reducible rfl
     rotate_left
     · simp only [Act.put, List.setIfInBounds_toArray, List.set_cons_zero, List.set_cons_succ, i64_w, i32_w]
       rfl
     refine pz 4 (some 14) (v := ?_) (a' := ?_) rfl rfl (by kernel_rfl) (fun _ _ _ h => h) (Or.inl ⟨by rfl, ?_⟩) ?_ ?_
     rotate_left
     · intro w'
       go_simp
       with_reducible rfl
     rotate_left
     · simp only [Act.put, List.setIfInBounds_toArray, List.set_cons_zero, List.set_cons_succ, i64_w, i32_w]
       rfl
     refine pz 5 (some 15) (v := ?_) (a' := ?_) rfl rfl (by kernel_rfl) (fun _ _ _ h => h) (Or.inl ⟨by rfl, ?_⟩) ?_ ?_
     rotate_left
     · intro w'
       go_simp
       with_reducible rfl
     rotate_left
     · simp only [Act.put, List.setIfInBounds_toArray, List.set_cons_zero, List.set_cons_succ, i64_w, i32_w]
       rfl
     refine pz 6 (some 16) (v := ?_) (a' := ?_) rfl rfl (by kernel_rfl) (fun _ _ _ h => h) (Or.inl ⟨by rfl, ?_⟩) ?_ ?_
     rotate_left
     · intro w'
       go_simp
       with_reducible rfl
     rotate_left
     · simp only [Act.put, List.setIfInBounds_toArray, List.set_cons_zero, List.set_cons_succ, i64_w, i32_w]
       rfl
     refine pz 7 (some 17) (v := ?_) (a' := ?_) rfl rfl (by kernel_rfl) (fun _ _ _ h => h) (Or.inl ⟨by rfl, ?_⟩) ?_ ?_
     rotate_left
     · intro w'
       go_simp
       with_reducible rfl
     rotate_left
     · simp only [Act.put, List.setIfInBounds_toArray, List.set_cons_zero, List.set_cons_succ, i64_w, i32_w]
       rfl
     refine tz 3 (some 13) (v := ?_) (a' := ?_) rfl rfl (by kernel_rfl) (fun _ _ _ h => h) (Or.inl ⟨by rfl, ?_⟩) hHeld ?_ ?_
     rotate_left
     · rintro w' ⟨s0, s1⟩
       go_simp
       with_reducible rfl
     rotate_left
     · simp only [Act.put, List.setIfInBounds_toArray, List.set_cons_zero, List.set_cons_succ, i64_w, i32_w]
       rfl
     refine tz 8 (some 18) (v := ?_) (a' := ?_) rfl rfl (by kernel_rfl) (fun _ _ _ h => h) (Or.inl ⟨by rfl, ?_⟩) hHeld ?_ ?_
     rotate_left
     · rintro w' ⟨s0, s1⟩
       go_simp
       with_reducible rfl
     rotate_left
     · simp only [Act.put, List.setIfInBounds_toArray, List.set_cons_zero, List.set_cons_succ, i64_w, i32_w]
       rfl
     refine pz 9 (some 19) (v := ?_) (a' := ?_) rfl rfl (by kernel_rfl) (fun _ _ _ h => h) (Or.inl ⟨by rfl, ?_⟩) ?_ ?_
     rotate_left
     · intro w'
       go_simp
       with_reducible rfl
     rotate_left
     · simp only [Act.put, List.setIfInBounds_toArray, List.set_cons_zero, List.set_cons_succ, i64_w, i32_w]
       rfl
     refine done_ (by kernel_rfl) ?_
     clear qe0 qe1
     obtain ⟨W13_, hW15_⟩ : ∃ W, W = wr2_.drew := ⟨_, rfl⟩
     have HS14_ : Aside0 (KitW.St w W13_ []) := by rw [hW15_]; exact ⟨by simpa using HSr.out.drew⟩
     rw [← hW15_]
     clear hW15_ HSr
     have qe0 : W13_.cell? (a4_.add (i).toNat) = some (.string x5_) := pw_cell_below HS14_.out.B E6_.out
     have qe1 : W13_.cell? (a4_.add (p7_).toNat) = some (.string x9_) := pw_cell_below HS14_.out.B E10_.out
     go_wp2
     go_ret
     exact ⟨by rw [up_stop hi (by have := HN.out; omega) Hx5_.out h8_E.out Hx9_.out (by first | exact sLt_no c11_A.out | exact sLt_eq c11_A.out)]; rfl, HS14_.out.B⟩
    ·
     have c11_A := Aside0.mk (Bool.eq_false_iff.2 c11_)
     have c11_1 := c11_A.out
     clear c11_
     by_cases c16_ : (x5_.toList == x9_.toList) = true
     ·
      have c16_A := Aside0.mk c16_
      have c16_1 := c16_A.out
      clear c16_
      have HS17_ := Aside0.mk HSr.out.drew
      have qe0 : wr2_.cell? (a4_.add (i).toNat) = some (.string x5_) := pw_cell_below HSr.out.B E6_.out
      have qe1 : wr2_.cell? (a4_.add (p7_).toNat) = some (.string x9_) := pw_cell_below HSr.out.B E10_.out
      go_wp2
      refine start_ (n := 10) (S := fun w' => w'.cell? (a4_.add (i).toNat) = some (.string x5_) ∧ w'.cell? (a4_.add (p7_).toNat) = some (.string x9_)) (ds := []) #[false, false, false, false, false, false, false, false, false, false] (by kernel_rfl) rfl rfl ⟨(by go_simp), (by go_simp)⟩ (fun hHeld => ?_)
      refine pz 0 (some 10) (v := ?_) (a' := ?_) rfl rfl (by kernel_rfl) (fun _ _ _ h => h) (Or.inl ⟨by rfl, ?_⟩) ?_ ?_
      rotate_left
      · intro w'
        go_simp
        with_reducible rfl
      rotate_left
      · simp only [Act.put, List.setIfInBounds_toArray, List.set_cons_zero, List.set_cons_succ, i64_w, i32_w]
        rfl
      refine pz 1 (some 11) (v := ?_) (a' := ?_) rfl rfl (by kernel_rfl) (fun _ _ _ h => h) (Or.inl ⟨by rfl, ?_⟩) ?_ ?_
      rotate_left
      · intro w'
        go_simp
        with_reducible rfl
      rotate_left
      · simp only [Act.put, List.setIfInBounds_toArray, List.set_cons_zero, List.set_cons_succ, i64_w, i32_w]
        rfl
      refine pz 2 (some 12) (v := ?_) (a' := ?_) rfl rfl (by kernel_rfl) (fun _ _ _ h => h) (Or.inl ⟨by rfl, ?_⟩) ?_ ?_
      rotate_left
      · intro w'
        go_simp
        with_reducible rfl
      rotate_left
      · simp only [Act.put, List.setIfInBounds_toArray, List.set_cons_zero, List.set_cons_succ, i64_w, i32_w]
        rfl
      refine pz 4 (some 14) (v := ?_) (a' := ?_) rfl rfl (by kernel_rfl) (fun _ _ _ h => h) (Or.inl ⟨by rfl, ?_⟩) ?_ ?_
      rotate_left
      · intro w'
        go_simp
        with_reducible rfl
      rotate_left
      · simp only [Act.put, List.setIfInBounds_toArray, List.set_cons_zero, List.set_cons_succ, i64_w, i32_w]
        rfl
      refine pz 5 (some 15) (v := ?_) (a' := ?_) rfl rfl (by kernel_rfl) (fun _ _ _ h => h) (Or.inl ⟨by rfl, ?_⟩) ?_ ?_
      rotate_left
      · intro w'
        go_simp
        with_reducible rfl
      rotate_left
      · simp only [Act.put, List.setIfInBounds_toArray, List.set_cons_zero, List.set_cons_succ, i64_w, i32_w]
        rfl
      refine pz 6 (some 16) (v := ?_) (a' := ?_) rfl rfl (by kernel_rfl) (fun _ _ _ h => h) (Or.inl ⟨by rfl, ?_⟩) ?_ ?_
      rotate_left
      · intro w'
        go_simp
        with_reducible rfl
      rotate_left
      · simp only [Act.put, List.setIfInBounds_toArray, List.set_cons_zero, List.set_cons_succ, i64_w, i32_w]
        rfl
      refine pz 7 (some 17) (v := ?_) (a' := ?_) rfl rfl (by kernel_rfl) (fun _ _ _ h => h) (Or.inl ⟨by rfl, ?_⟩) ?_ ?_
      rotate_left
      · intro w'
        go_simp
        with_reducible rfl
      rotate_left
      · simp only [Act.put, List.setIfInBounds_toArray, List.set_cons_zero, List.set_cons_succ, i64_w, i32_w]
        rfl
      refine tz 3 (some 13) (v := ?_) (a' := ?_) rfl rfl (by kernel_rfl) (fun _ _ _ h => h) (Or.inl ⟨by rfl, ?_⟩) hHeld ?_ ?_
      rotate_left
      · rintro w' ⟨s0, s1⟩
        go_simp
        with_reducible rfl
      rotate_left
      · simp only [Act.put, List.setIfInBounds_toArray, List.set_cons_zero, List.set_cons_succ, i64_w, i32_w]
        rfl
      refine tz 8 (some 18) (v := ?_) (a' := ?_) rfl rfl (by kernel_rfl) (fun _ _ _ h => h) (Or.inl ⟨by rfl, ?_⟩) hHeld ?_ ?_
      rotate_left
      · rintro w' ⟨s0, s1⟩
        go_simp
        with_reducible rfl
      rotate_left
      · simp only [Act.put, List.setIfInBounds_toArray, List.set_cons_zero, List.set_cons_succ, i64_w, i32_w]
        rfl
      refine pz 9 (some 19) (v := ?_) (a' := ?_) rfl rfl (by kernel_rfl) (fun _ _ _ h => h) (Or.inl ⟨by rfl, ?_⟩) ?_ ?_
      rotate_left
      · intro w'
        go_simp
        with_reducible rfl
      rotate_left
      · simp only [Act.put, List.setIfInBounds_toArray, List.set_cons_zero, List.set_cons_succ, i64_w, i32_w]
        rfl
      refine done_ (by kernel_rfl) ?_
      clear qe0 qe1
      obtain ⟨W18_, hW20_⟩ : ∃ W, W = wr2_.drew := ⟨_, rfl⟩
      have HS19_ : Aside0 (KitW.St w W18_ []) := by rw [hW20_]; exact ⟨by simpa using HSr.out.drew⟩
      rw [← hW20_]
      clear hW20_ HSr
      have qe0 : W18_.cell? (a4_.add (i).toNat) = some (.string x5_) := pw_cell_below HS19_.out.B E6_.out
      have qe1 : W18_.cell? (a4_.add (p7_).toNat) = some (.string x9_) := pw_cell_below HS19_.out.B E10_.out
      go_wp2
      go_ret
      exact ⟨by rw [up_stop hi (by have := HN.out; omega) Hx5_.out h8_E.out Hx9_.out (by first | exact sLt_no c16_A.out | exact sLt_eq c16_A.out)]; rfl, HS19_.out.B⟩
     ·
      have c16_A := Aside0.mk (Bool.eq_false_iff.2 c16_)
      have c16_1 := c16_A.out
      clear c16_
      have HS21_ := Aside0.mk HSr.out.drew
      have qe0 : wr2_.cell? (a4_.add (i).toNat) = some (.string x5_) := pw_cell_below HSr.out.B E6_.out
      have qe1 : wr2_.cell? (a4_.add (p7_).toNat) = some (.string x9_) := pw_cell_below HSr.out.B E10_.out
      go_wp2
      refine start_ (n := 10) (S := fun w' => w'.cell? (a4_.add (i).toNat) = some (.string x5_) ∧ w'.cell? (a4_.add (p7_).toNat) = some (.string x9_)) (ds := []) #[false, false, false, false, false, false, false, false, false, false] (by kernel_rfl) rfl rfl ⟨(by go_simp), (by go_simp)⟩ (fun hHeld => ?_)
      refine pz 0 (some 10) (v := ?_) (a' := ?_) rfl rfl (by kernel_rfl) (fun _ _ _ h => h) (Or.inl ⟨by rfl, ?_⟩) ?_ ?_
      rotate_left
      · intro w'
        go_simp
        with_reducible rfl
      rotate_left
      · simp only [Act.put, List.setIfInBounds_toArray, List.set_cons_zero, List.set_cons_succ, i64_w, i32_w]
        rfl
      refine pz 1 (some 11) (v := ?_) (a' := ?_) rfl rfl (by kernel_rfl) (fun _ _ _ h => h) (Or.inl ⟨by rfl, ?_⟩) ?_ ?_
      rotate_left
      · intro w'
        go_simp
        with_reducible rfl
      rotate_left
      · simp only [Act.put, List.setIfInBounds_toArray, List.set_cons_zero, List.set_cons_succ, i64_w, i32_w]
        rfl
      refine pz 2 (some 12) (v := ?_) (a' := ?_) rfl rfl (by kernel_rfl) (fun _ _ _ h => h) (Or.inl ⟨by rfl, ?_⟩) ?_ ?_
      rotate_left
      · intro w'
        go_simp
        with_reducible rfl
      rotate_left
      · simp only [Act.put, List.setIfInBounds_toArray, List.set_cons_zero, List.set_cons_succ, i64_w, i32_w]
        rfl
      refine pz 4 (some 14) (v := ?_) (a' := ?_) rfl rfl (by kernel_rfl) (fun _ _ _ h => h) (Or.inl ⟨by rfl, ?_⟩) ?_ ?_
      rotate_left
      · intro w'
        go_simp
        with_reducible rfl
      rotate_left
      · simp only [Act.put, List.setIfInBounds_toArray, List.set_cons_zero, List.set_cons_succ, i64_w, i32_w]
        rfl
      refine pz 5 (some 15) (v := ?_) (a' := ?_) rfl rfl (by kernel_rfl) (fun _ _ _ h => h) (Or.inl ⟨by rfl, ?_⟩) ?_ ?_
      rotate_left
      · intro w'
        go_simp
        with_reducible rfl
      rotate_left
      · simp only [Act.put, List.setIfInBounds_toArray, List.set_cons_zero, List.set_cons_succ, i64_w, i32_w]
        rfl
      refine pz 6 (some 16) (v := ?_) (a' := ?_) rfl rfl (by kernel_rfl) (fun _ _ _ h => h) (Or.inl ⟨by rfl, ?_⟩) ?_ ?_
      rotate_left
      · intro w'
        go_simp
        with_reducible rfl
      rotate_left
      · simp only [Act.put, List.setIfInBounds_toArray, List.set_cons_zero, List.set_cons_succ, i64_w, i32_w]
        rfl
      refine pz 7 (some 17) (v := ?_) (a' := ?_) rfl rfl (by kernel_rfl) (fun _ _ _ h => h) (Or.inl ⟨by rfl, ?_⟩) ?_ ?_
      rotate_left
      · intro w'
        go_simp
        with_reducible rfl
      rotate_left
      · simp only [Act.put, List.setIfInBounds_toArray, List.set_cons_zero, List.set_cons_succ, i64_w, i32_w]
        rfl
      refine tz 3 (some 13) (v := ?_) (a' := ?_) rfl rfl (by kernel_rfl) (fun _ _ _ h => h) (Or.inl ⟨by rfl, ?_⟩) hHeld ?_ ?_
      rotate_left
      · rintro w' ⟨s0, s1⟩
        go_simp
        with_reducible rfl
      rotate_left
      · simp only [Act.put, List.setIfInBounds_toArray, List.set_cons_zero, List.set_cons_succ, i64_w, i32_w]
        rfl
      refine tz 8 (some 18) (v := ?_) (a' := ?_) rfl rfl (by kernel_rfl) (fun _ _ _ h => h) (Or.inl ⟨by rfl, ?_⟩) hHeld ?_ ?_
      rotate_left
      · rintro w' ⟨s0, s1⟩
        go_simp
        with_reducible rfl
      rotate_left
      · simp only [Act.put, List.setIfInBounds_toArray, List.set_cons_zero, List.set_cons_succ, i64_w, i32_w]
        rfl
      refine pz 9 (some 19) (v := ?_) (a' := ?_) rfl rfl (by kernel_rfl) (fun _ _ _ h => h) (Or.inl ⟨by rfl, ?_⟩) ?_ ?_
      rotate_left
      · intro w'
        go_simp
        with_reducible rfl
      rotate_left
      · simp only [Act.put, List.setIfInBounds_toArray, List.set_cons_zero, List.set_cons_succ, i64_w, i32_w]
        rfl
      refine done_ (by kernel_rfl) ?_
      clear qe0 qe1
      obtain ⟨W22_, hW24_⟩ : ∃ W, W = wr2_.drew := ⟨_, rfl⟩
      have HS23_ : Aside0 (KitW.St w W22_ []) := by rw [hW24_]; exact ⟨by simpa using HSr.out.drew⟩
      rw [← hW24_]
      clear hW24_ HSr
      have qe0 : W22_.cell? (a4_.add (i).toNat) = some (.string x5_) := pw_cell_below HS23_.out.B E6_.out
      have qe1 : W22_.cell? (a4_.add (p7_).toNat) = some (.string x9_) := pw_cell_below HS23_.out.B E10_.out
      go_wp2
      go_roundg (gk1_ - 1)
      case measure => omega
      case rel => exact ⟨i + 1, by go_num, by omega, by omega, ⟨up_step HI.out hi Hx5_.out h8_E.out Hx9_.out (sLt_yes c11_A.out c16_A.out)⟩, HS23_⟩
   ·
    have c3_1 : decide (i < ((n : Nat) : Int)) = false := by simpa using c3_
    have c3_2 : ((n : Nat) : Int) ≤ i := by omega
    have c3_A := Aside0.mk c3_2
    clear c3_
    go_wp2
    go_ret
    exact ⟨by rw [(up_iff sLt ByteArray.empty l).2 (fun j hj => HI.out j (by have := HN.out; omega))]; rfl, HSr.out.B⟩
set_option maxRecDepth 100000 in
set_option maxHeartbeats 4000000 in
theorem riseR_calls (A0 : Option Addr) (c0 : Nat) (l : List ByteArray) (w : World) (hr : Kd.C Kd.string w A0 l.length l) :
    Calls Tryd.prog 54 #[.slice A0 l.length c0] w fun e w' => e = .returned (.bool (up sLt l)) ∧ Below w.heap.size w w' := by
  have HR := Aside0.mk hr
  have hm := C_max hr
  clear hr
  have HS0 := Aside0.mk (St.start w)
  obtain ⟨n, hn⟩ : ∃ n, n = l.length := ⟨_, rfl⟩
  rw [← hn]
  rw [← hn] at HR hm
  have HN := Aside0.mk hn
  clear hn
  go_enter Tryd.func54, Tryd.ntmps54
  go_wp2
  go_loopg [3] n (fun g v W => ∃ i : Int, v = .int .i64 i ∧ 1 ≤ i ∧ (g : Int) + i = (n : Int) + 1 ∧ Aside0 (∀ j, j + 1 < i.toNat → sLt (l.getD j ByteArray.empty) (l.getD (j + 1) ByteArray.empty) = true) ∧ Aside0 (St w W []))
  case atStart => exact ⟨1, rfl, by omega, by omega, ⟨fun j hj => by simp at hj⟩, HS0⟩
  case round =>
   revert wr gk
   intro gk1_ wr2_ hrel hK_
   obtain ⟨i, rfl, hi, hg, HI, HSr⟩ := hrel
   have hi0 : 0 ≤ i := by omega
   by_cases c3_ : i < ((n : Nat) : Int)
   ·
    have c3_A := Aside0.mk c3_
    have c3_1 : decide (i < ((n : Nat) : Int)) = true := by simpa using c3_
    obtain ⟨p4_, h5_⟩ : ∃ p : Int, wrap64 (i - 1) = p := ⟨_, rfl⟩
    have h5_E : Aside0 (p4_ = i - 1) := ⟨by rw [← h5_]; unfold wrap64; omega⟩
    obtain ⟨a6_, rfl⟩ := C_some HR.out (by omega)
    have E8_0 : 0 ≤ p4_ := by have := h5_E.out; omega
    have E8_1 : p4_ < (n : Int) := by have := h5_E.out; omega
    obtain ⟨x7_, hx7_⟩ : ∃ x, x = l.getD (p4_).toNat ByteArray.empty := ⟨_, rfl⟩
    have E8_ : Aside0 (w.cell? (a6_.add (p4_).toNat) = some (.string x7_)) := ⟨by rw [hx7_]; exact str_at HR.out (p4_) (by omega) (by omega)⟩
    have Hx7_ := Aside0.mk hx7_
    clear hx7_
    have E10_0 : 0 ≤ i := by have := h5_E.out; omega
    have E10_1 : i < (n : Int) := by have := h5_E.out; omega
    obtain ⟨x9_, hx9_⟩ : ∃ x, x = l.getD (i).toNat ByteArray.empty := ⟨_, rfl⟩
    have E10_ : Aside0 (w.cell? (a6_.add (i).toNat) = some (.string x9_)) := ⟨by rw [hx9_]; exact str_at HR.out (i) (by omega) (by omega)⟩
    have Hx9_ := Aside0.mk hx9_
    clear hx9_
    by_cases c11_ : (Go.Op.bytesLess x7_.toList x9_.toList) = true
    ·
     have c11_A := Aside0.mk c11_
     have c11_1 := c11_A.out
     clear c11_
     have HS12_ := Aside0.mk HSr.out.drew
     have qe0 : wr2_.cell? (a6_.add (p4_).toNat) = some (.string x7_) := pw_cell_below HSr.out.B E8_.out
     have qe1 : wr2_.cell? (a6_.add (i).toNat) = some (.string x9_) := pw_cell_below HSr.out.B E10_.out
     go_wp2
     refine start_ (n := 10) (S := fun w' => w'.cell? (a6_.add (p4_).toNat) = some (.string x7_) ∧ w'.cell? (a6_.add (i).toNat) = some (.string x9_)) (ds := []) #[false, false, false, false, false, false, false, false, false, false] (by kernel_rfl) rfl rfl ⟨(by go_simp), (by go_simp)⟩ (fun hHeld => ?_)
     refine pz 0 (some 10) (v := ?_) (a' := ?_) rfl rfl (by kernel_rfl) (fun _ _ _ h => h) (Or.inl ⟨by rfl, ?_⟩) ?_ ?_
     rotate_left
     · intro w'
       go_simp
       with_reducible rfl
     rotate_left
     · simp only [Act.put, List.setIfInBounds_toArray, List.set_cons_zero, List.set_cons_succ, i64_w, i32_w]
       rfl
     refine pz 1 (some 11) (v := ?_) (a' := ?_) rfl rfl (by kernel_rfl) (fun _ _ _ h => h) (Or.inl ⟨by rfl, ?_⟩) ?_ ?_
     rotate_left
     · intro w'
       go_simp
       with_reducible rfl
     rotate_left
     · simp only [Act.put, List.setIfInBounds_toArray, List.set_cons_zero, List.set_cons_succ, i64_w, i32_w]
       rfl
     refine pz 2 (some 12) (v := ?_) (a' := ?_) rfl rfl (by kernel_rfl) (fun _ _ _ h => h) (Or.inl ⟨by rfl, ?_⟩) ?_ ?_
     rotate_left
     · intro w'
       go_simp
       with_reducible rfl
     rotate_left
     · simp only [Act.put, List.setIfInBounds_toArray, List.set_cons_zero, List.set_cons_succ, i64_w, i32_w]
       rfl
     refine pz 3 (some 13) (v := ?_) (a' := ?_) rfl rfl (by kernel_rfl) (fun _ _ _ h => h) (Or.inl ⟨by rfl, ?_⟩) ?_ ?_
     rotate_left
     · intro w'
       go_simp
       with_reducible rfl
     rotate_left
     · simp only [Act.put, List.setIfInBounds_toArray, List.set_cons_zero, List.set_cons_succ, i64_w, i32_w]
       rfl
     refine pz 5 (some 15) (v := ?_) (a' := ?_) rfl rfl (by kernel_rfl) (fun _ _ _ h => h) (Or.inl ⟨by rfl, ?_⟩) ?_ ?_
     rotate_left
     · intro w'
       go_simp
       with_reducible rfl
     rotate_left
     · simp only [Act.put, List.setIfInBounds_toArray, List.set_cons_zero, List.set_cons_succ, i64_w, i32_w]
       rfl
     refine pz 6 (some 16) (v := ?_) (a' := ?_) rfl rfl (by kernel_rfl) (fun _ _ _ h => h) (Or.inl ⟨by rfl, ?_⟩) ?_ ?_
     rotate_left
     · intro w'
       go_simp
       with_reducible rfl
     rotate_left
     · simp only [Act.put, List.setIfInBounds_toArray, List.set_cons_zero, List.set_cons_succ, i64_w, i32_w]
       rfl
     refine pz 7 (some 17) (v := ?_) (a' := ?_) rfl rfl (by kernel_rfl) (fun _ _ _ h => h) (Or.inl ⟨by rfl, ?_⟩) ?_ ?_
     rotate_left
     · intro w'
       go_simp
       with_reducible rfl
     rotate_left
     · simp only [Act.put, List.setIfInBounds_toArray, List.set_cons_zero, List.set_cons_succ, i64_w, i32_w]
       rfl
     refine tz 4 (some 14) (v := ?_) (a' := ?_) rfl rfl (by kernel_rfl) (fun _ _ _ h => h) (Or.inl ⟨by rfl, ?_⟩) hHeld ?_ ?_
     rotate_left
     · rintro w' ⟨s0, s1⟩
       go_simp
       with_reducible rfl
     rotate_left
     · simp only [Act.put, List.setIfInBounds_toArray, List.set_cons_zero, List.set_cons_succ, i64_w, i32_w]
       rfl
     refine tz 8 (some 18) (v := ?_) (a' := ?_) rfl rfl (by kernel_rfl) (fun _ _ _ h => h) (Or.inl ⟨by rfl, ?_⟩) hHeld ?_ ?_
     rotate_left
     · rintro w' ⟨s0, s1⟩
       go_simp
       with_reducible rfl
     rotate_left
     · simp only [Act.put, List.setIfInBounds_toArray, List.set_cons_zero, List.set_cons_succ, i64_w, i32_w]
       rfl
     refine pz 9 (some 19) (v := ?_) (a' := ?_) rfl rfl (by kernel_rfl) (fun _ _ _ h => h) (Or.inl ⟨by rfl, ?_⟩) ?_ ?_
     rotate_left
     · intro w'
       go_simp
       with_reducible rfl
     rotate_left
     · simp only [Act.put, List.setIfInBounds_toArray, List.set_cons_zero, List.set_cons_succ, i64_w, i32_w]
       rfl
     refine done_ (by kernel_rfl) ?_
     clear qe0 qe1
     obtain ⟨W13_, hW15_⟩ : ∃ W, W = wr2_.drew := ⟨_, rfl⟩
     have HS14_ : Aside0 (KitW.St w W13_ []) := by rw [hW15_]; exact ⟨by simpa using HSr.out.drew⟩
     rw [← hW15_]
     clear hW15_ HSr
     have qe0 : W13_.cell? (a6_.add (p4_).toNat) = some (.string x7_) := pw_cell_below HS14_.out.B E8_.out
     have qe1 : W13_.cell? (a6_.add (i).toNat) = some (.string x9_) := pw_cell_below HS14_.out.B E10_.out
     go_wp2
     go_roundg (gk1_ - 1)
     case measure => omega
     case rel => exact ⟨i + 1, by go_num, by omega, by omega, ⟨up_step HI.out hi Hx9_.out h5_E.out Hx7_.out (c11_A.out)⟩, HS14_⟩
    ·
     have c11_A := Aside0.mk (Bool.eq_false_iff.2 c11_)
     have c11_1 := c11_A.out
     clear c11_
     have HS16_ := Aside0.mk HSr.out.drew
     have qe0 : wr2_.cell? (a6_.add (p4_).toNat) = some (.string x7_) := pw_cell_below HSr.out.B E8_.out
     have qe1 : wr2_.cell? (a6_.add (i).toNat) = some (.string x9_) := pw_cell_below HSr.out.B E10_.out
     go_wp2
     refine start_ (n := 10) (S := fun w' => w'.cell? (a6_.add (p4_).toNat) = some (.string x7_) ∧ w'.cell? (a6_.add (i).toNat) = some (.string x9_)) (ds := []) #[false, false, false, false, false, false, false, false, false, false] (by kernel_rfl) rfl rfl ⟨(by go_simp), (by go_simp)⟩ (fun hHeld => ?_)
     refine pz 0 (some 10) (v := ?_) (a' := ?_) rfl rfl (by kernel_rfl) (fun _ _ _ h => h) (Or.inl ⟨by rfl, ?_⟩) ?_ ?_
     rotate_left
     · intro w'
       go_simp
       with_reducible rfl
     rotate_left
     · simp only [Act.put, List.setIfInBounds_toArray, List.set_cons_zero, List.set_cons_succ, i64_w, i32_w]
       rfl
     refine pz 1 (some 11) (v := ?_) (a' := ?_) rfl rfl (by kernel_rfl) (fun _ _ _ h => h) (Or.inl ⟨by rfl, ?_⟩) ?_ ?_
     rotate_left
     · intro w'
       go_simp
       with_reducible rfl
     rotate_left
     · simp only [Act.put, List.setIfInBounds_toArray, List.set_cons_zero, List.set_cons_succ, i64_w, i32_w]
       rfl
     refine pz 2 (some 12) (v := ?_) (a' := ?_) rfl rfl (by kernel_rfl) (fun _ _ _ h => h) (Or.inl ⟨by rfl, ?_⟩) ?_ ?_
     rotate_left
     · intro w'
       go_simp
       with_reducible rfl
     rotate_left
     · simp only [Act.put, List.setIfInBounds_toArray, List.set_cons_zero, List.set_cons_succ, i64_w, i32_w]
       rfl
     refine pz 3 (some 13) (v := ?_) (a' := ?_) rfl rfl (by kernel_rfl) (fun _ _ _ h => h) (Or.inl ⟨by rfl, ?_⟩) ?_ ?_
     rotate_left
     · intro w'
       go_simp
       with_reducible rfl
     rotate_left
     · simp only [Act.put, List.setIfInBounds_toArray, List.set_cons_zero, List.set_cons_succ, i64_w, i32_w]
       rfl
     refine pz 5 (some 15) (v := ?_) (a' := ?_) rfl rfl (by kernel_rfl) (fun _ _ _ h => h) (Or.inl ⟨by rfl, ?_⟩) ?_ ?_
     rotate_left
     · intro w'
       go_simp
       with_reducible rfl
     rotate_left
     · simp only [Act.put, List.setIfInBounds_toArray, List.set_cons_zero, List.set_cons_succ, i64_w, i32_w]
       rfl
     refine pz 6 (some 16) (v := ?_) (a' := ?_) rfl rfl (by kernel_rfl) (fun _ _ _ h => h) (Or.inl ⟨by rfl, ?_⟩) ?_ ?_
     rotate_left
     · intro w'
       go_simp
       with_reducible rfl
     rotate_left
     · simp only [Act.put, List.setIfInBounds_toArray, List.set_cons_zero, List.set_cons_succ, i64_w, i32_w]
       rfl
     refine pz 7 (some 17) (v := ?_) (a' := ?_) rfl rfl (by kernel_rfl) (fun _ _ _ h => h) (Or.inl ⟨by rfl, ?_⟩) ?_ ?_
     rotate_left
     · intro w'
       go_simp
       with_reducible rfl
     rotate_left
     · simp only [Act.put, List.setIfInBounds_toArray, List.set_cons_zero, List.set_cons_succ, i64_w, i32_w]
       rfl
     refine tz 4 (some 14) (v := ?_) (a' := ?_) rfl rfl (by kernel_rfl) (fun _ _ _ h => h) (Or.inl ⟨by rfl, ?_⟩) hHeld ?_ ?_
     rotate_left
     · rintro w' ⟨s0, s1⟩
       go_simp
       with_reducible rfl
     rotate_left
     · simp only [Act.put, List.setIfInBounds_toArray, List.set_cons_zero, List.set_cons_succ, i64_w, i32_w]
       rfl
     refine tz 8 (some 18) (v := ?_) (a' := ?_) rfl rfl (by kernel_rfl) (fun _ _ _ h => h) (Or.inl ⟨by rfl, ?_⟩) hHeld ?_ ?_
     rotate_left
     · rintro w' ⟨s0, s1⟩
       go_simp
       with_reducible rfl
     rotate_left
     · simp only [Act.put, List.setIfInBounds_toArray, List.set_cons_zero, List.set_cons_succ, i64_w, i32_w]
       rfl
     refine pz 9 (some 19) (v := ?_) (a' := ?_) rfl rfl (by kernel_rfl) (fun _ _ _ h => h) (Or.inl ⟨by rfl, ?_⟩) ?_ ?_
     rotate_left
     · intro w'
       go_simp
       with_reducible rfl
     rotate_left
     · simp only [Act.put, List.setIfInBounds_toArray, List.set_cons_zero, List.set_cons_succ, i64_w, i32_w]
       rfl
     refine done_ (by kernel_rfl) ?_
     clear qe0 qe1
     obtain ⟨W17_, hW19_⟩ : ∃ W, W = wr2_.drew := ⟨_, rfl⟩
     have HS18_ : Aside0 (KitW.St w W17_ []) := by rw [hW19_]; exact ⟨by simpa using HSr.out.drew⟩
     rw [← hW19_]
     clear hW19_ HSr
     have qe0 : W17_.cell? (a6_.add (p4_).toNat) = some (.string x7_) := pw_cell_below HS18_.out.B E8_.out
     have qe1 : W17_.cell? (a6_.add (i).toNat) = some (.string x9_) := pw_cell_below HS18_.out.B E10_.out
     go_wp2
     go_ret
     exact ⟨by rw [up_stop hi (by have := HN.out; omega) Hx9_.out h5_E.out Hx7_.out (c11_A.out)]; rfl, HS18_.out.B⟩
   ·
    have c3_1 : decide (i < ((n : Nat) : Int)) = false := by simpa using c3_
    have c3_2 : ((n : Nat) : Int) ≤ i := by omega
    have c3_A := Aside0.mk c3_2
    clear c3_
    go_wp2
    go_ret
    exact ⟨by rw [(up_iff sLt ByteArray.empty l).2 (fun j hj => HI.out j (by have := HN.out; omega))]; rfl, HSr.out.B⟩
end Cn
end Go.Proofs.YtmhndfnmdkeiaaaDoor

namespace Go.Proofs.YtmhndfnmdkeiaaaDoor
open Go.RowKit Go.Proofs.YtmhndfnmdkeiaaaDoorW.PrintWords Go.Proofs.YtmhndfnmdkeiaaaDoorW.PrintLast Go.Proofs.YtmhndfnmdkeiaaaDoorW.PrintMore
open KitW
namespace Cn
set_option linter.unusedSimpArgs false
set_option linter.unusedVariables false
attribute [local go_sem] max2_int min2_int max_two min_two max_three min_three max_four min_four

def wi (n m : Int) : Bool := decide (0 ≤ n) && decide (n ≤ m)

set_option maxRecDepth 100000 in
set_option maxHeartbeats 4000000 in
theorem wiI_calls (n : Int) (m : Int) (w : World) : Calls Tryd.prog 50 #[.int .i64 n, .int .i64 m] w fun e w' => e = .returned (.bool (wi n m)) ∧ w' = w := by
  go_enter Tryd.func50, Tryd.ntmps50
  by_cases c1_ : 0 ≤ n
  ·
   have c1_A := Aside0.mk c1_
   have c1_1 : decide (0 ≤ n) = true := by simpa using c1_
   go_wp2
   go_ret
   exact ⟨by simp [wi, c1_A.out, Int.not_lt.2 c1_A.out], rfl⟩
  ·
   have c1_1 : decide (0 ≤ n) = false := by simpa using c1_
   have c1_2 : n < 0 := by omega
   have c1_A := Aside0.mk c1_2
   clear c1_
   go_wp2
   go_ret
   exact ⟨by simp [wi, c1_A.out, Int.not_le.2 c1_A.out], rfl⟩

set_option maxRecDepth 100000 in
set_option maxHeartbeats 4000000 in
theorem wiR_calls (n : Int) (m : Int) (w : World) : Calls Tryd.prog 27 #[.int .i64 n, .int .i64 m] w fun e w' => e = .returned (.bool (wi n m)) ∧ w' = w := by
  go_enter Tryd.func27, Tryd.ntmps27
  by_cases c1_ : 0 ≤ n
  ·
   have c1_A := Aside0.mk c1_
   have c1_1 : decide (0 ≤ n) = true := by simpa using c1_
   go_wp2
   go_ret
   exact ⟨by simp [wi, c1_A.out, Int.not_lt.2 c1_A.out], rfl⟩
  ·
   have c1_1 : decide (0 ≤ n) = false := by simpa using c1_
   have c1_2 : n < 0 := by omega
   have c1_A := Aside0.mk c1_2
   clear c1_
   go_wp2
   go_ret
   exact ⟨by simp [wi, c1_A.out, Int.not_le.2 c1_A.out], rfl⟩
def wiB (n m : Int) : Bool := if m < 0 then n == 0 else decide (0 ≤ n) && decide (n ≤ m)

set_option maxRecDepth 100000 in
set_option maxHeartbeats 4000000 in
theorem wiB_calls (n : Int) (m : Int) (w : World) : Calls Tryd.prog 84 #[.int .i64 n, .int .i64 m] w fun e w' => e = .returned (.bool (wiB n m)) ∧ w' = w := by
  go_enter Tryd.func84, Tryd.ntmps84
  by_cases c1_ : m < 0
  ·
   have c1_A := Aside0.mk c1_
   have c1_1 : decide (m < 0) = true := by simpa using c1_
   go_wp2
   go_ret
   exact ⟨by simp [wiB, c1_A.out, Int.not_le.2 c1_A.out], rfl⟩
  ·
   have c1_1 : decide (m < 0) = false := by simpa using c1_
   have c1_2 : 0 ≤ m := by omega
   have c1_A := Aside0.mk c1_2
   clear c1_
   by_cases c2_ : 0 ≤ n
   ·
    have c2_A := Aside0.mk c2_
    have c2_1 : decide (0 ≤ n) = true := by simpa using c2_
    go_wp2
    go_ret
    exact ⟨by simp [wiB, c1_A.out, Int.not_lt.2 c1_A.out, c2_A.out, Int.not_lt.2 c2_A.out], rfl⟩
   ·
    have c2_1 : decide (0 ≤ n) = false := by simpa using c2_
    have c2_2 : n < 0 := by omega
    have c2_A := Aside0.mk c2_2
    clear c2_
    go_wp2
    go_ret
    exact ⟨by simp [wiB, c1_A.out, Int.not_lt.2 c1_A.out, c2_A.out, Int.not_le.2 c2_A.out], rfl⟩
def kn (op : Int) : Bool := decide (0 ≤ op) && decide (op < 29)
set_option maxRecDepth 100000 in
set_option maxHeartbeats 4000000 in
theorem kn_calls (op : Int) (w : World) : Calls Tryd.prog 79 #[.int .i64 op] w fun e w' => e = .returned (.bool (kn op)) ∧ w' = w := by
  go_enter Tryd.func79, Tryd.ntmps79
  by_cases c1_ : 0 ≤ op
  ·
   have c1_A := Aside0.mk c1_
   have c1_1 : decide (0 ≤ op) = true := by simpa using c1_
   go_wp2
   go_ret
   exact ⟨by simp [kn, c1_A.out, Int.not_lt.2 c1_A.out], rfl⟩
  ·
   have c1_1 : decide (0 ≤ op) = false := by simpa using c1_
   have c1_2 : op < 0 := by omega
   have c1_A := Aside0.mk c1_2
   clear c1_
   go_wp2
   go_ret
   exact ⟨by simp [kn, c1_A.out, Int.not_le.2 c1_A.out], rfl⟩
def big (c : Int) : Bool := decide (65 ≤ c) && decide (c ≤ 90)
def dig (c : Int) : Bool := decide (48 ≤ c) && decide (c ≤ 57)
def sml (c : Int) : Bool := decide (97 ≤ c) && decide (c ≤ 122)
def rns (c : Int) : Bool := dig c || sml c || big c || c == 95

set_option maxRecDepth 100000 in
set_option maxHeartbeats 4000000 in
theorem bigL_calls (c : Int) (w : World) : Calls Tryd.prog 78 #[.int .u8 c] w fun e w' => e = .returned (.bool (big c)) ∧ w' = w := by
  go_enter Tryd.func78, Tryd.ntmps78
  by_cases c1_ : 65 ≤ c
  ·
   have c1_A := Aside0.mk c1_
   have c1_1 : decide (65 ≤ c) = true := by simpa using c1_
   go_wp2
   go_ret
   exact ⟨by simp [big, c1_A.out, Int.not_lt.2 c1_A.out], rfl⟩
  ·
   have c1_1 : decide (65 ≤ c) = false := by simpa using c1_
   have c1_2 : c < 65 := by omega
   have c1_A := Aside0.mk c1_2
   clear c1_
   go_wp2
   go_ret
   exact ⟨by simp [big, c1_A.out, Int.not_le.2 c1_A.out], rfl⟩

set_option maxRecDepth 100000 in
set_option maxHeartbeats 4000000 in
theorem digL_calls (c : Int) (w : World) : Calls Tryd.prog 94 #[.int .u8 c] w fun e w' => e = .returned (.bool (dig c)) ∧ w' = w := by
  go_enter Tryd.func94, Tryd.ntmps94
  by_cases c1_ : 48 ≤ c
  ·
   have c1_A := Aside0.mk c1_
   have c1_1 : decide (48 ≤ c) = true := by simpa using c1_
   go_wp2
   go_ret
   exact ⟨by simp [dig, c1_A.out, Int.not_lt.2 c1_A.out], rfl⟩
  ·
   have c1_1 : decide (48 ≤ c) = false := by simpa using c1_
   have c1_2 : c < 48 := by omega
   have c1_A := Aside0.mk c1_2
   clear c1_
   go_wp2
   go_ret
   exact ⟨by simp [dig, c1_A.out, Int.not_le.2 c1_A.out], rfl⟩

set_option maxRecDepth 100000 in
set_option maxHeartbeats 4000000 in
theorem bigR_calls (c : Int) (w : World) : Calls Tryd.prog 80 #[.int .u8 c] w fun e w' => e = .returned (.bool (big c)) ∧ w' = w := by
  go_enter Tryd.func80, Tryd.ntmps80
  by_cases c1_ : 65 ≤ c
  ·
   have c1_A := Aside0.mk c1_
   have c1_1 : decide (65 ≤ c) = true := by simpa using c1_
   go_wp2
   go_ret
   exact ⟨by simp [big, c1_A.out, Int.not_lt.2 c1_A.out], rfl⟩
  ·
   have c1_1 : decide (65 ≤ c) = false := by simpa using c1_
   have c1_2 : c < 65 := by omega
   have c1_A := Aside0.mk c1_2
   clear c1_
   go_wp2
   go_ret
   exact ⟨by simp [big, c1_A.out, Int.not_le.2 c1_A.out], rfl⟩

set_option maxRecDepth 100000 in
set_option maxHeartbeats 4000000 in
theorem digR_calls (c : Int) (w : World) : Calls Tryd.prog 105 #[.int .u8 c] w fun e w' => e = .returned (.bool (dig c)) ∧ w' = w := by
  go_enter Tryd.func105, Tryd.ntmps105
  by_cases c1_ : 48 ≤ c
  ·
   have c1_A := Aside0.mk c1_
   have c1_1 : decide (48 ≤ c) = true := by simpa using c1_
   go_wp2
   go_ret
   exact ⟨by simp [dig, c1_A.out, Int.not_lt.2 c1_A.out], rfl⟩
  ·
   have c1_1 : decide (48 ≤ c) = false := by simpa using c1_
   have c1_2 : c < 48 := by omega
   have c1_A := Aside0.mk c1_2
   clear c1_
   go_wp2
   go_ret
   exact ⟨by simp [dig, c1_A.out, Int.not_le.2 c1_A.out], rfl⟩

set_option maxRecDepth 100000 in
set_option maxHeartbeats 4000000 in
theorem smlR_calls (c : Int) (w : World) : Calls Tryd.prog 96 #[.int .u8 c] w fun e w' => e = .returned (.bool (sml c)) ∧ w' = w := by
  go_enter Tryd.func96, Tryd.ntmps96
  by_cases c1_ : 97 ≤ c
  ·
   have c1_A := Aside0.mk c1_
   have c1_1 : decide (97 ≤ c) = true := by simpa using c1_
   go_wp2
   go_ret
   exact ⟨by simp [sml, c1_A.out, Int.not_lt.2 c1_A.out], rfl⟩
  ·
   have c1_1 : decide (97 ≤ c) = false := by simpa using c1_
   have c1_2 : c < 97 := by omega
   have c1_A := Aside0.mk c1_2
   clear c1_
   go_wp2
   go_ret
   exact ⟨by simp [sml, c1_A.out, Int.not_le.2 c1_A.out], rfl⟩

set_option maxRecDepth 100000 in
set_option maxHeartbeats 4000000 in
theorem rnsR_calls (c : Int) (w : World) : Calls Tryd.prog 95 #[.int .u8 c] w fun e w' => e = .returned (.bool (rns c)) ∧ w' = w := by
  go_enter Tryd.func95, Tryd.ntmps95
  by_cases c1_ : (dig c) = true
  ·
   have c1_A := Aside0.mk c1_
   clear c1_
   go_wp2_with (go_at_call 105; refine stop ?_)
   refine Stop.mk ?_
   refine (digR_calls c _).mono ?_
   rintro e W ⟨rfl, hw_⟩
   rw [hw_]
   clear hw_ W
   rw [c1_A.out]
   go_wp2
   go_ret
   exact ⟨by simp [rns, c1_A.out], rfl⟩
  ·
   have c1_A := Aside0.mk (Bool.eq_false_iff.2 c1_)
   clear c1_
   by_cases c2_ : (sml c) = true
   ·
    have c2_A := Aside0.mk c2_
    clear c2_
    go_wp2_with (go_at_call 105; refine stop ?_)
    refine Stop.mk ?_
    refine (digR_calls c _).mono ?_
    rintro e W ⟨rfl, hw_⟩
    rw [hw_]
    clear hw_ W
    rw [c1_A.out]
    go_wp2_with (go_at_call 96; refine stop ?_)
    refine Stop.mk ?_
    refine (smlR_calls c _).mono ?_
    rintro e W ⟨rfl, hw_⟩
    rw [hw_]
    clear hw_ W
    rw [c2_A.out]
    go_wp2
    go_ret
    exact ⟨by simp [rns, c1_A.out, c2_A.out], rfl⟩
   ·
    have c2_A := Aside0.mk (Bool.eq_false_iff.2 c2_)
    clear c2_
    by_cases c3_ : (big c) = true
    ·
     have c3_A := Aside0.mk c3_
     clear c3_
     go_wp2_with (go_at_call 105; refine stop ?_)
     refine Stop.mk ?_
     refine (digR_calls c _).mono ?_
     rintro e W ⟨rfl, hw_⟩
     rw [hw_]
     clear hw_ W
     rw [c1_A.out]
     go_wp2_with (go_at_call 96; refine stop ?_)
     refine Stop.mk ?_
     refine (smlR_calls c _).mono ?_
     rintro e W ⟨rfl, hw_⟩
     rw [hw_]
     clear hw_ W
     rw [c2_A.out]
     go_wp2_with (go_at_call 80; refine stop ?_)
     refine Stop.mk ?_
     refine (bigR_calls c _).mono ?_
     rintro e W ⟨rfl, hw_⟩
     rw [hw_]
     clear hw_ W
     rw [c3_A.out]
     go_wp2
     go_ret
     exact ⟨by simp [rns, c1_A.out, c2_A.out, c3_A.out], rfl⟩
    ·
     have c3_A := Aside0.mk (Bool.eq_false_iff.2 c3_)
     clear c3_
     go_wp2_with (go_at_call 105; refine stop ?_)
     refine Stop.mk ?_
     refine (digR_calls c _).mono ?_
     rintro e W ⟨rfl, hw_⟩
     rw [hw_]
     clear hw_ W
     rw [c1_A.out]
     go_wp2_with (go_at_call 96; refine stop ?_)
     refine Stop.mk ?_
     refine (smlR_calls c _).mono ?_
     rintro e W ⟨rfl, hw_⟩
     rw [hw_]
     clear hw_ W
     rw [c2_A.out]
     go_wp2_with (go_at_call 80; refine stop ?_)
     refine Stop.mk ?_
     refine (bigR_calls c _).mono ?_
     rintro e W ⟨rfl, hw_⟩
     rw [hw_]
     clear hw_ W
     rw [c3_A.out]
     go_wp2
     go_ret
     exact ⟨by simp [rns, c1_A.out, c2_A.out, c3_A.out], rfl⟩
def cur (s : ByteArray) : Bool := decide ((s.size : Int) = 3) && big (bt s 0) && big (bt s 1) && big (bt s 2)

set_option maxRecDepth 100000 in
set_option maxHeartbeats 4000000 in
theorem curL_calls (s : ByteArray) (w : World) : Calls Tryd.prog 49 #[.string s] w fun e w' => e = .returned (.bool (cur s)) ∧ w' = w := by
  go_enter Tryd.func49, Tryd.ntmps49
  by_cases c1_ : (s.size : Int) = 3
  ·
   have c1_A := Aside0.mk c1_
   have c1_1 : ((s.size : Int) == 3) = true := by simpa using c1_
   have c1_2 : ((s.size : Int) != 3) = false := by simpa using c1_
   clear c1_
   have hb2_ : ∀ h : 0 < s.size, ((s[0]'h).toNat : Int) = bt s 0 := bt_at s 0
   have hb2_1 : (0 < s.size) = True := eq_true (by have := c1_A.out; omega)
   have hb2_2 : (0 < (s.size : Int)) = True := eq_true (by have := c1_A.out; omega)
   by_cases c3_ : (big (bt s 0)) = true
   ·
    have c3_A := Aside0.mk c3_
    clear c3_
    have hb4_ : ∀ h : 1 < s.size, ((s[1]'h).toNat : Int) = bt s 1 := bt_at s 1
    have hb4_1 : (1 < s.size) = True := eq_true (by have := c1_A.out; omega)
    have hb4_2 : (1 < (s.size : Int)) = True := eq_true (by have := c1_A.out; omega)
    by_cases c5_ : (big (bt s 1)) = true
    ·
     have c5_A := Aside0.mk c5_
     clear c5_
     have hb6_ : ∀ h : 2 < s.size, ((s[2]'h).toNat : Int) = bt s 2 := bt_at s 2
     have hb6_1 : (2 < s.size) = True := eq_true (by have := c1_A.out; omega)
     have hb6_2 : (2 < (s.size : Int)) = True := eq_true (by have := c1_A.out; omega)
     by_cases c7_ : (big (bt s 2)) = true
     ·
      have c7_A := Aside0.mk c7_
      clear c7_
      go_wp2_with (go_at_call 78; refine stop ?_)
      refine Stop.mk ?_
      refine (bigL_calls (bt s 0) _).mono ?_
      rintro e W ⟨rfl, hw_⟩
      rw [hw_]
      clear hw_ W
      rw [c3_A.out]
      go_wp2_with (go_at_call 78; refine stop ?_)
      refine Stop.mk ?_
      refine (bigL_calls (bt s 1) _).mono ?_
      rintro e W ⟨rfl, hw_⟩
      rw [hw_]
      clear hw_ W
      rw [c5_A.out]
      go_wp2_with (go_at_call 78; refine stop ?_)
      refine Stop.mk ?_
      refine (bigL_calls (bt s 2) _).mono ?_
      rintro e W ⟨rfl, hw_⟩
      rw [hw_]
      clear hw_ W
      rw [c7_A.out]
      go_wp2
      go_ret
      exact ⟨by simp [cur, c1_A.out, c3_A.out, c5_A.out, c7_A.out], rfl⟩
     ·
      have c7_A := Aside0.mk (Bool.eq_false_iff.2 c7_)
      clear c7_
      go_wp2_with (go_at_call 78; refine stop ?_)
      refine Stop.mk ?_
      refine (bigL_calls (bt s 0) _).mono ?_
      rintro e W ⟨rfl, hw_⟩
      rw [hw_]
      clear hw_ W
      rw [c3_A.out]
      go_wp2_with (go_at_call 78; refine stop ?_)
      refine Stop.mk ?_
      refine (bigL_calls (bt s 1) _).mono ?_
      rintro e W ⟨rfl, hw_⟩
      rw [hw_]
      clear hw_ W
      rw [c5_A.out]
      go_wp2_with (go_at_call 78; refine stop ?_)
      refine Stop.mk ?_
      refine (bigL_calls (bt s 2) _).mono ?_
      rintro e W ⟨rfl, hw_⟩
      rw [hw_]
      clear hw_ W
      rw [c7_A.out]
      go_wp2
      go_ret
      exact ⟨by simp [cur, c1_A.out, c3_A.out, c5_A.out, c7_A.out], rfl⟩
    ·
     have c5_A := Aside0.mk (Bool.eq_false_iff.2 c5_)
     clear c5_
     go_wp2_with (go_at_call 78; refine stop ?_)
     refine Stop.mk ?_
     refine (bigL_calls (bt s 0) _).mono ?_
     rintro e W ⟨rfl, hw_⟩
     rw [hw_]
     clear hw_ W
     rw [c3_A.out]
     go_wp2_with (go_at_call 78; refine stop ?_)
     refine Stop.mk ?_
     refine (bigL_calls (bt s 1) _).mono ?_
     rintro e W ⟨rfl, hw_⟩
     rw [hw_]
     clear hw_ W
     rw [c5_A.out]
     go_wp2
     go_ret
     exact ⟨by simp [cur, c1_A.out, c3_A.out, c5_A.out], rfl⟩
   ·
    have c3_A := Aside0.mk (Bool.eq_false_iff.2 c3_)
    clear c3_
    go_wp2_with (go_at_call 78; refine stop ?_)
    refine Stop.mk ?_
    refine (bigL_calls (bt s 0) _).mono ?_
    rintro e W ⟨rfl, hw_⟩
    rw [hw_]
    clear hw_ W
    rw [c3_A.out]
    go_wp2
    go_ret
    exact ⟨by simp [cur, c1_A.out, c3_A.out], rfl⟩
  ·
   have c1_A := Aside0.mk c1_
   have c1_1 : ((s.size : Int) == 3) = false := by simpa using c1_
   have c1_2 : ((s.size : Int) != 3) = true := by simpa using c1_
   clear c1_
   go_wp2
   go_ret
   exact ⟨by simp [cur, c1_A.out], rfl⟩

set_option maxRecDepth 100000 in
set_option maxHeartbeats 4000000 in
theorem curR_calls (s : ByteArray) (w : World) : Calls Tryd.prog 56 #[.string s] w fun e w' => e = .returned (.bool (cur s)) ∧ w' = w := by
  go_enter Tryd.func56, Tryd.ntmps56
  by_cases c1_ : (s.size : Int) = 3
  ·
   have c1_A := Aside0.mk c1_
   have c1_1 : ((s.size : Int) == 3) = true := by simpa using c1_
   have c1_2 : ((s.size : Int) != 3) = false := by simpa using c1_
   clear c1_
   have hb2_ : ∀ h : 0 < s.size, ((s[0]'h).toNat : Int) = bt s 0 := bt_at s 0
   have hb2_1 : (0 < s.size) = True := eq_true (by have := c1_A.out; omega)
   have hb2_2 : (0 < (s.size : Int)) = True := eq_true (by have := c1_A.out; omega)
   by_cases c3_ : (big (bt s 0)) = true
   ·
    have c3_A := Aside0.mk c3_
    clear c3_
    have hb4_ : ∀ h : 1 < s.size, ((s[1]'h).toNat : Int) = bt s 1 := bt_at s 1
    have hb4_1 : (1 < s.size) = True := eq_true (by have := c1_A.out; omega)
    have hb4_2 : (1 < (s.size : Int)) = True := eq_true (by have := c1_A.out; omega)
    by_cases c5_ : (big (bt s 1)) = true
    ·
     have c5_A := Aside0.mk c5_
     clear c5_
     have hb6_ : ∀ h : 2 < s.size, ((s[2]'h).toNat : Int) = bt s 2 := bt_at s 2
     have hb6_1 : (2 < s.size) = True := eq_true (by have := c1_A.out; omega)
     have hb6_2 : (2 < (s.size : Int)) = True := eq_true (by have := c1_A.out; omega)
     by_cases c7_ : (big (bt s 2)) = true
     ·
      have c7_A := Aside0.mk c7_
      clear c7_
      go_wp2_with (go_at_call 80; refine stop ?_)
      refine Stop.mk ?_
      refine (bigR_calls (bt s 0) _).mono ?_
      rintro e W ⟨rfl, hw_⟩
      rw [hw_]
      clear hw_ W
      rw [c3_A.out]
      go_wp2_with (go_at_call 80; refine stop ?_)
      refine Stop.mk ?_
      refine (bigR_calls (bt s 1) _).mono ?_
      rintro e W ⟨rfl, hw_⟩
      rw [hw_]
      clear hw_ W
      rw [c5_A.out]
      go_wp2_with (go_at_call 80; refine stop ?_)
      refine Stop.mk ?_
      refine (bigR_calls (bt s 2) _).mono ?_
      rintro e W ⟨rfl, hw_⟩
      rw [hw_]
      clear hw_ W
      rw [c7_A.out]
      go_wp2
      go_ret
      exact ⟨by simp [cur, c1_A.out, c3_A.out, c5_A.out, c7_A.out], rfl⟩
     ·
      have c7_A := Aside0.mk (Bool.eq_false_iff.2 c7_)
      clear c7_
      go_wp2_with (go_at_call 80; refine stop ?_)
      refine Stop.mk ?_
      refine (bigR_calls (bt s 0) _).mono ?_
      rintro e W ⟨rfl, hw_⟩
      rw [hw_]
      clear hw_ W
      rw [c3_A.out]
      go_wp2_with (go_at_call 80; refine stop ?_)
      refine Stop.mk ?_
      refine (bigR_calls (bt s 1) _).mono ?_
      rintro e W ⟨rfl, hw_⟩
      rw [hw_]
      clear hw_ W
      rw [c5_A.out]
      go_wp2_with (go_at_call 80; refine stop ?_)
      refine Stop.mk ?_
      refine (bigR_calls (bt s 2) _).mono ?_
      rintro e W ⟨rfl, hw_⟩
      rw [hw_]
      clear hw_ W
      rw [c7_A.out]
      go_wp2
      go_ret
      exact ⟨by simp [cur, c1_A.out, c3_A.out, c5_A.out, c7_A.out], rfl⟩
    ·
     have c5_A := Aside0.mk (Bool.eq_false_iff.2 c5_)
     clear c5_
     go_wp2_with (go_at_call 80; refine stop ?_)
     refine Stop.mk ?_
     refine (bigR_calls (bt s 0) _).mono ?_
     rintro e W ⟨rfl, hw_⟩
     rw [hw_]
     clear hw_ W
     rw [c3_A.out]
     go_wp2_with (go_at_call 80; refine stop ?_)
     refine Stop.mk ?_
     refine (bigR_calls (bt s 1) _).mono ?_
     rintro e W ⟨rfl, hw_⟩
     rw [hw_]
     clear hw_ W
     rw [c5_A.out]
     go_wp2
     go_ret
     exact ⟨by simp [cur, c1_A.out, c3_A.out, c5_A.out], rfl⟩
   ·
    have c3_A := Aside0.mk (Bool.eq_false_iff.2 c3_)
    clear c3_
    go_wp2_with (go_at_call 80; refine stop ?_)
    refine Stop.mk ?_
    refine (bigR_calls (bt s 0) _).mono ?_
    rintro e W ⟨rfl, hw_⟩
    rw [hw_]
    clear hw_ W
    rw [c3_A.out]
    go_wp2
    go_ret
    exact ⟨by simp [cur, c1_A.out, c3_A.out], rfl⟩
  ·
   have c1_A := Aside0.mk c1_
   have c1_1 : ((s.size : Int) == 3) = false := by simpa using c1_
   have c1_2 : ((s.size : Int) != 3) = true := by simpa using c1_
   clear c1_
   go_wp2
   go_ret
   exact ⟨by simp [cur, c1_A.out], rfl⟩
end Cn
end Go.Proofs.YtmhndfnmdkeiaaaDoor

namespace Go.Proofs.YtmhndfnmdkeiaaaDoor
open Go.RowKit Go.Proofs.YtmhndfnmdkeiaaaDoorW.PrintWords Go.Proofs.YtmhndfnmdkeiaaaDoorW.PrintLast Go.Proofs.YtmhndfnmdkeiaaaDoorW.PrintMore
open KitW
namespace Cn
set_option linter.unusedSimpArgs false
set_option linter.unusedVariables false
attribute [local go_sem] max2_int min2_int max_two min_two max_three min_three max_four min_four

def allb (p : Int → Bool) (s : ByteArray) : Bool := (List.range s.size).all fun i => p (bt s (i : Int))
theorem allb_yes {p : Int → Bool} {s : ByteArray} (h : ∀ j : Int, 0 ≤ j → j < (s.size : Int) → p (bt s j) = true) : allb p s = true := by
  unfold allb
  rw [List.all_eq_true]
  intro i hi
  rw [List.mem_range] at hi
  exact h i (by omega) (by omega)
theorem allb_no {p : Int → Bool} {s : ByteArray} {i : Int} (h0 : 0 ≤ i) (h1 : i < (s.size : Int)) (h : p (bt s i) = false) : allb p s = false := by
  rw [← Bool.not_eq_true]
  intro ha
  unfold allb at ha
  rw [List.all_eq_true] at ha
  have := ha i.toNat (by rw [List.mem_range]; omega)
  rw [Int.toNat_of_nonneg h0, h] at this
  cases this
theorem all_step {p : Int → Bool} {s : ByteArray} {i : Int} (H : ∀ j : Int, 0 ≤ j → j < i → p (bt s j) = true) (h : p (bt s i) = true) : ∀ j : Int, 0 ≤ j → j < i + 1 → p (bt s j) = true := by
  intro j h0 h1
  by_cases e : j = i
  · rw [e]; exact h
  · exact H j h0 (by omega)
def okc (c : Int) : Bool := big c || dig c || c == 95
def capN (s : ByteArray) : Bool := decide (1 ≤ (s.size : Int)) && decide ((s.size : Int) ≤ 31) && big (bt s 0) && allb okc s

set_option maxRecDepth 100000 in
set_option maxHeartbeats 4000000 in
theorem capN_calls (s : ByteArray) (w : World) : Calls Tryd.prog 77 #[.string s, .func (.func 78) #[] #[]] w fun e w' => e = .returned (.bool (capN s)) ∧ w' = w := by
  go_enter Tryd.func77, Tryd.ntmps77
  by_cases c1_ : (s.size : Int) < 1
  ·
   have c1_A := Aside0.mk c1_
   have c1_1 : decide ((s.size : Int) < 1) = true := by simpa using c1_
   go_wp2
   go_ret
   exact ⟨by rw [show capN s = false from by simp [capN, c1_A.out, Int.not_le.2 c1_A.out]]; rfl, rfl⟩
  ·
   have c1_1 : decide ((s.size : Int) < 1) = false := by simpa using c1_
   have c1_2 : 1 ≤ (s.size : Int) := by omega
   have c1_A := Aside0.mk c1_2
   clear c1_
   by_cases c2_ : 31 < (s.size : Int)
   ·
    have c2_A := Aside0.mk c2_
    have c2_1 : decide (31 < (s.size : Int)) = true := by simpa using c2_
    go_wp2
    go_ret
    exact ⟨by rw [show capN s = false from by simp [capN, c1_A.out, Int.not_lt.2 c1_A.out, c2_A.out, Int.not_le.2 c2_A.out]]; rfl, rfl⟩
   ·
    have c2_1 : decide (31 < (s.size : Int)) = false := by simpa using c2_
    have c2_2 : (s.size : Int) ≤ 31 := by omega
    have c2_A := Aside0.mk c2_2
    clear c2_
    have hb3_ : ∀ h : 0 < s.size, ((s[0]'h).toNat : Int) = bt s 0 := bt_at s 0
    have hb3_1 : (0 < s.size) = True := eq_true (by omega)
    have hb3_2 : (0 < (s.size : Int)) = True := eq_true (by omega)
    by_cases c4_ : (big (bt s 0)) = true
    ·
     have c4_A := Aside0.mk c4_
     clear c4_
     go_wp2_with (go_at_call 78; refine stop ?_)
     refine Stop.mk ?_
     refine (bigL_calls (bt s 0) _).mono ?_
     rintro e W ⟨rfl, hw_⟩
     rw [hw_]
     clear hw_ W
     rw [c4_A.out]
     go_wp2
     go_loopg [23, 5] s.size (fun g v _ W => ∃ i : Int, v = .int .i64 i ∧ 0 ≤ i ∧ (g : Int) + i = (s.size : Int) ∧ Aside0 (∀ j : Int, 0 ≤ j → j < i → okc (bt s j) = true) ∧ W = w)
     case atStart => exact ⟨0, rfl, by omega, by omega, ⟨fun j h0 h1 => by omega⟩, rfl⟩
     case round =>
      revert wr gk
      intro gk5_ wr6_ hrel hK_
      obtain ⟨i, rfl, hi, hg, HI, rfl⟩ := hrel
      by_cases c7_ : i < (s.size : Int)
      ·
       have c7_A := Aside0.mk c7_
       have c7_1 : decide (i < (s.size : Int)) = true := by simpa using c7_
       have hb8_ := bt_at s i
       have hb8_0 : (0 ≤ i) = True := eq_true (by omega)
       have hb8_2 : (i < (s.size : Int)) = True := eq_true (by omega)
       by_cases c9_ : (big (bt s i)) = true
       ·
        have c9_A := Aside0.mk c9_
        clear c9_
        go_wp2_with (go_at_call 78; refine stop ?_)
        refine Stop.mk ?_
        refine (bigL_calls (bt s i) _).mono ?_
        rintro e W ⟨rfl, hw_⟩
        rw [hw_]
        clear hw_ W
        rw [c9_A.out]
        go_wp2
        go_roundg (gk5_ - 1)
        case measure => omega
        case rel => exact ⟨i + 1, by go_num, by omega, by omega, ⟨all_step HI.out (by simp [okc, c1_A.out, Int.not_lt.2 c1_A.out, c2_A.out, Int.not_lt.2 c2_A.out, c4_A.out, c7_A.out, Int.not_le.2 c7_A.out, c9_A.out])⟩, rfl⟩
       ·
        have c9_A := Aside0.mk (Bool.eq_false_iff.2 c9_)
        clear c9_
        by_cases c10_ : (dig (bt s i)) = true
        ·
         have c10_A := Aside0.mk c10_
         clear c10_
         go_wp2_with (go_at_call 78; refine stop ?_)
         refine Stop.mk ?_
         refine (bigL_calls (bt s i) _).mono ?_
         rintro e W ⟨rfl, hw_⟩
         rw [hw_]
         clear hw_ W
         rw [c9_A.out]
         go_wp2_with (go_at_call 94; refine stop ?_)
         refine Stop.mk ?_
         refine (digL_calls (bt s i) _).mono ?_
         rintro e W ⟨rfl, hw_⟩
         rw [hw_]
         clear hw_ W
         rw [c10_A.out]
         go_wp2
         go_roundg (gk5_ - 1)
         case measure => omega
         case rel => exact ⟨i + 1, by go_num, by omega, by omega, ⟨all_step HI.out (by simp [okc, c1_A.out, Int.not_lt.2 c1_A.out, c2_A.out, Int.not_lt.2 c2_A.out, c4_A.out, c7_A.out, Int.not_le.2 c7_A.out, c9_A.out, c10_A.out])⟩, rfl⟩
        ·
         have c10_A := Aside0.mk (Bool.eq_false_iff.2 c10_)
         clear c10_
         by_cases c11_ : (bt s i) = 95
         ·
          have c11_A := Aside0.mk c11_
          have c11_1 : ((bt s i) == 95) = true := by simpa using c11_
          have c11_2 : ((bt s i) != 95) = false := by simpa using c11_
          clear c11_
          go_wp2_with (go_at_call 78; refine stop ?_)
          refine Stop.mk ?_
          refine (bigL_calls (bt s i) _).mono ?_
          rintro e W ⟨rfl, hw_⟩
          rw [hw_]
          clear hw_ W
          rw [c9_A.out]
          go_wp2_with (go_at_call 94; refine stop ?_)
          refine Stop.mk ?_
          refine (digL_calls (bt s i) _).mono ?_
          rintro e W ⟨rfl, hw_⟩
          rw [hw_]
          clear hw_ W
          rw [c10_A.out]
          go_wp2
          go_roundg (gk5_ - 1)
          case measure => omega
          case rel => exact ⟨i + 1, by go_num, by omega, by omega, ⟨all_step HI.out (by simp [okc, c1_A.out, Int.not_lt.2 c1_A.out, c2_A.out, Int.not_lt.2 c2_A.out, c4_A.out, c7_A.out, Int.not_le.2 c7_A.out, c9_A.out, c10_A.out, c11_A.out])⟩, rfl⟩
         ·
          have c11_A := Aside0.mk c11_
          have c11_1 : ((bt s i) == 95) = false := by simpa using c11_
          have c11_2 : ((bt s i) != 95) = true := by simpa using c11_
          clear c11_
          go_wp2_with (go_at_call 78; refine stop ?_)
          refine Stop.mk ?_
          refine (bigL_calls (bt s i) _).mono ?_
          rintro e W ⟨rfl, hw_⟩
          rw [hw_]
          clear hw_ W
          rw [c9_A.out]
          go_wp2_with (go_at_call 94; refine stop ?_)
          refine Stop.mk ?_
          refine (digL_calls (bt s i) _).mono ?_
          rintro e W ⟨rfl, hw_⟩
          rw [hw_]
          clear hw_ W
          rw [c10_A.out]
          go_wp2
          go_ret
          exact ⟨by rw [show capN s = false from by unfold capN; rw [allb_no (s := s) hi (by omega) (show okc (bt s i) = false from by simp [okc, c1_A.out, Int.not_lt.2 c1_A.out, c2_A.out, Int.not_lt.2 c2_A.out, c4_A.out, c7_A.out, Int.not_le.2 c7_A.out, c9_A.out, c10_A.out, c11_A.out])]; simp]; rfl, rfl⟩
      ·
       have c7_1 : decide (i < (s.size : Int)) = false := by simpa using c7_
       have c7_2 : (s.size : Int) ≤ i := by omega
       have c7_A := Aside0.mk c7_2
       clear c7_
       go_wp2
       go_ret
       exact ⟨by rw [show capN s = true from by unfold capN; rw [allb_yes (s := s) (fun j h0 h1 => HI.out j h0 (by omega))]; simp [c1_A.out, Int.not_lt.2 c1_A.out, c2_A.out, Int.not_lt.2 c2_A.out, c4_A.out, c7_A.out, Int.not_lt.2 c7_A.out]]; rfl, rfl⟩
    ·
     have c4_A := Aside0.mk (Bool.eq_false_iff.2 c4_)
     clear c4_
     go_wp2_with (go_at_call 78; refine stop ?_)
     refine Stop.mk ?_
     refine (bigL_calls (bt s 0) _).mono ?_
     rintro e W ⟨rfl, hw_⟩
     rw [hw_]
     clear hw_ W
     rw [c4_A.out]
     go_wp2
     go_ret
     exact ⟨by rw [show capN s = false from by simp [capN, c1_A.out, Int.not_lt.2 c1_A.out, c2_A.out, Int.not_lt.2 c2_A.out, c4_A.out]]; rfl, rfl⟩

set_option maxRecDepth 100000 in
set_option maxHeartbeats 4000000 in
theorem capL_calls (s : ByteArray) (w : World) : Calls Tryd.prog 47 #[.string s] w fun e w' => e = .returned (.bool (capN s)) ∧ w' = w := by
  go_enter Tryd.func47, Tryd.ntmps47
  by_cases c1_ : (capN s) = true
  ·
   have c1_A := Aside0.mk c1_
   clear c1_
   go_wp2_with (go_at_call 77; refine stop ?_)
   refine Stop.mk ?_
   refine (capN_calls s _).mono ?_
   rintro e W ⟨rfl, hw_⟩
   rw [hw_]
   clear hw_ W
   rw [c1_A.out]
   go_wp2
   go_ret
   exact ⟨by simp [capN_calls, c1_A.out], rfl⟩
  ·
   have c1_A := Aside0.mk (Bool.eq_false_iff.2 c1_)
   clear c1_
   go_wp2_with (go_at_call 77; refine stop ?_)
   refine Stop.mk ?_
   refine (capN_calls s _).mono ?_
   rintro e W ⟨rfl, hw_⟩
   rw [hw_]
   clear hw_ W
   rw [c1_A.out]
   go_wp2
   go_ret
   exact ⟨by simp [capN_calls, c1_A.out], rfl⟩
end Cn
end Go.Proofs.YtmhndfnmdkeiaaaDoor

namespace Go.Proofs.YtmhndfnmdkeiaaaDoor
open Go.RowKit Go.Proofs.YtmhndfnmdkeiaaaDoorW.PrintWords Go.Proofs.YtmhndfnmdkeiaaaDoorW.PrintLast Go.Proofs.YtmhndfnmdkeiaaaDoorW.PrintMore
open KitW
namespace Cn
set_option linter.unusedSimpArgs false
set_option linter.unusedVariables false
attribute [local go_sem] max2_int min2_int max_two min_two max_three min_three max_four min_four

theorem run_eq {s : ByteArray} {i : Int} (h0 : 0 ≤ i) (h1 : i ≤ (s.size : Int)) (H : ∀ j : Int, 0 ≤ j → j < i → rns (bt s j) = true) (he : i < (s.size : Int) → rns (bt s i) = false) :
    ((s.extract (0 : Int).toNat i.toNat).toList == s.toList) = allb rns s := by
  by_cases hi : i < (s.size : Int)
  · rw [allb_no h0 hi (he hi), beq_eq_false_iff_ne]
    intro e
    rw [ByteArray.toList_eq, ByteArray.toList_eq] at e
    have := congrArg List.length e
    simp at this
    omega
  · rw [allb_yes (fun j a b => H j a (by omega)), beq_iff_eq]
    have e : i.toNat = s.size := by omega
    rw [e]
    have : s.extract (0 : Int).toNat s.size = s := by simp
    rw [this]

set_option maxRecDepth 100000 in
set_option maxHeartbeats 4000000 in
theorem runR_calls (s : ByteArray) (hs : s.size ≤ 140737488351232) (w : World) : Calls Tryd.prog 81 #[.string s, .int .i64 0] w fun e w' => ∃ t, e = .returned (.string t) ∧ w' = w ∧ (t.toList == s.toList) = allb rns s := by
  go_enter Tryd.func81, Tryd.ntmps81
  go_wp2
  go_loopg [5] s.size (fun g v W => ∃ i : Int, v = .int .i64 i ∧ 0 ≤ i ∧ (g : Int) + i = (s.size : Int) ∧ Aside0 (∀ j : Int, 0 ≤ j → j < i → rns (bt s j) = true) ∧ W = w)
  case atStart => exact ⟨0, rfl, by omega, by omega, ⟨fun j h0 h1 => by omega⟩, rfl⟩
  case round =>
   revert wr gk
   intro gk1_ wr2_ hrel hK_
   obtain ⟨i, rfl, hi, hg, HI, rfl⟩ := hrel
   have hi1 : i ≤ (s.size : Int) := by omega
   by_cases c3_ : i < (s.size : Int)
   ·
    have c3_A := Aside0.mk c3_
    have c3_1 : decide (i < (s.size : Int)) = true := by simpa using c3_
    have hb4_ := bt_at s i
    have hb4_0 : (0 ≤ i) = True := eq_true (by omega)
    have hb4_2 : (i < (s.size : Int)) = True := eq_true (by omega)
    by_cases c5_ : (rns (bt s i)) = true
    ·
     have c5_A := Aside0.mk c5_
     clear c5_
     go_wp2_with (go_at_call 95; refine stop ?_)
     refine Stop.mk ?_
     refine (rnsR_calls (bt s i) _).mono ?_
     rintro e W ⟨rfl, hw_⟩
     rw [hw_]
     clear hw_ W
     rw [c5_A.out]
     go_wp2
     go_roundg (gk1_ - 1)
     case measure => omega
     case rel => exact ⟨i + 1, by go_num, by omega, by omega, ⟨all_step HI.out c5_A.out⟩, rfl⟩
    ·
     have c5_A := Aside0.mk (Bool.eq_false_iff.2 c5_)
     clear c5_
     go_wp2_with (go_at_call 95; refine stop ?_)
     refine Stop.mk ?_
     refine (rnsR_calls (bt s i) _).mono ?_
     rintro e W ⟨rfl, hw_⟩
     rw [hw_]
     clear hw_ W
     rw [c5_A.out]
     go_wp2
     go_ret
     exact ⟨_, rfl, rfl, run_eq hi (by omega) HI.out (fun _ => c5_A.out)⟩
   ·
    have c3_1 : decide (i < (s.size : Int)) = false := by simpa using c3_
    have c3_2 : (s.size : Int) ≤ i := by omega
    have c3_A := Aside0.mk c3_2
    clear c3_
    go_wp2
    go_ret
    exact ⟨_, rfl, rfl, run_eq hi (by omega) HI.out (fun hlt => by omega)⟩
end Cn
end Go.Proofs.YtmhndfnmdkeiaaaDoor

namespace Go.Proofs.YtmhndfnmdkeiaaaDoor
open Go.RowKit Go.Proofs.YtmhndfnmdkeiaaaDoorW.PrintWords Go.Proofs.YtmhndfnmdkeiaaaDoorW.PrintLast Go.Proofs.YtmhndfnmdkeiaaaDoorW.PrintMore
open KitW
namespace Cn
set_option linter.unusedSimpArgs false
set_option linter.unusedVariables false
attribute [local go_sem] max2_int min2_int max_two min_two max_three min_three max_four min_four

def nsm (c : Int) : Bool := !sml c
def nmE (s : ByteArray) : Int := if allb nsm s then (if 31 < (s.size : Int) then 6 else 0) else 61
set_option maxRecDepth 100000 in
set_option maxHeartbeats 4000000 in
theorem namesR_calls (s : ByteArray) (w : World) (hs : s.size ≤ 140737488351232) (h0 : 0 < (s.size : Int)) (hb : big (bt s 0) = true) : Calls Tryd.prog 82 #[.string s, .int .i64 0] w fun e w' =>
    ∃ (k : Int) (t : ByteArray) (a n y m d q u p : Int), e = .returned (.tuple #[.agg #[.int .i64 k, .string t, .int .i64 a, .int .i64 n, .int .i64 y, .int .i64 m, .int .i64 d, .int .i64 q, .int .i64 u], .int .i64 p, .int .i64 (nmE s)]) ∧ Below w.heap.size w w' := by
  have hs0 := Aside0.mk hs
  have hbA := Aside0.mk hb
  clear hb
  have HS0 := Aside0.mk (St.start w)
  go_enter Tryd.func82, Tryd.ntmps82
  go_upto_region 1 with (fail)
  obtain ⟨W1_, hW3_⟩ : ∃ W, W = (w.alloc (.cells #[.int .i64 0, .string (⟨#[]⟩), .int .i64 0, .int .i64 0, .int .i64 0, .int .i64 0, .int .i64 0, .int .i64 0, .int .i64 0] 138 (0, 0))) := ⟨_, rfl⟩
  obtain ⟨g4_, hg5_⟩ : ∃ g, g = w.heap.size := ⟨_, rfl⟩
  have HS2_ : Aside0 (KitW.St w W1_ [Box g4_ #[.int .i64 0, .string (⟨#[]⟩), .int .i64 0, .int .i64 0, .int .i64 0, .int .i64 0, .int .i64 0, .int .i64 0, .int .i64 0] 138]) := by rw [hW3_, hg5_]; exact ⟨by simpa using (HS0.out.allocF #[.int .i64 0, .string (⟨#[]⟩), .int .i64 0, .int .i64 0, .int .i64 0, .int .i64 0, .int .i64 0, .int .i64 0, .int .i64 0] 138)⟩
  rw [← hW3_, ← hg5_]
  clear hW3_ hg5_ HS0
  go_upto_region 2 with (fail)
  obtain ⟨W6_, hW8_⟩ : ∃ W, W = (W1_.alloc (.cells #[.int .i64 1, .string s, .int .i64 0, .int .i64 0, .int .i64 0, .int .i64 0, .int .i64 0, .int .i64 0, .int .i64 0] 138 (0, 0))) := ⟨_, rfl⟩
  obtain ⟨g9_, hg10_⟩ : ∃ g, g = W1_.heap.size := ⟨_, rfl⟩
  have HS7_ : Aside0 (KitW.St w W6_ [Box g9_ #[.int .i64 1, .string s, .int .i64 0, .int .i64 0, .int .i64 0, .int .i64 0, .int .i64 0, .int .i64 0, .int .i64 0] 138, Box g4_ #[.int .i64 0, .string (⟨#[]⟩), .int .i64 0, .int .i64 0, .int .i64 0, .int .i64 0, .int .i64 0, .int .i64 0, .int .i64 0] 138]) := by rw [hW8_, hg10_]; exact ⟨by simpa using (HS2_.out.allocF #[.int .i64 1, .string s, .int .i64 0, .int .i64 0, .int .i64 0, .int .i64 0, .int .i64 0, .int .i64 0, .int .i64 0] 138)⟩
  rw [← hW8_, ← hg10_]
  clear hW8_ hg10_ HS2_
  have hb11_ : ∀ h : 0 < s.size, ((s[0]'h).toNat : Int) = bt s 0 := bt_at s 0
  have hb11_1 : (0 < s.size) = True := eq_true (by omega)
  have hb11_2 : (0 < (s.size : Int)) = True := eq_true (by omega)
  go_wp2_with (go_at_call 80; refine stop ?_)
  refine Stop.mk ?_
  refine (bigR_calls (bt s 0) _).mono ?_
  rintro e W ⟨rfl, hw_⟩
  rw [hw_]
  clear hw_ W
  rw [hbA.out]
  obtain ⟨q0_0, q0_1, q0_2, q0_3, q0_4, q0_5, q0_6, q0_7, q0_8, z0_0, z0_1, z0_2, z0_3, z0_4, z0_5, z0_6, z0_7, z0_8⟩ := HS7_.out.c9 0 rfl
  go_upto_region 4 with (fail)
  clear q0_0 q0_1 q0_2 q0_3 q0_4 q0_5 q0_6 q0_7 q0_8 z0_0 z0_1 z0_2 z0_3 z0_4 z0_5 z0_6 z0_7 z0_8
  obtain ⟨W12_, hW14_⟩ : ∃ W, W = (W6_.setCell ⟨g9_, 0, none⟩ (.int .i64 2)) := ⟨_, rfl⟩
  have HS13_ : Aside0 (KitW.St w W12_ [Box g9_ #[.int .i64 2, .string s, .int .i64 0, .int .i64 0, .int .i64 0, .int .i64 0, .int .i64 0, .int .i64 0, .int .i64 0] 138, Box g4_ #[.int .i64 0, .string (⟨#[]⟩), .int .i64 0, .int .i64 0, .int .i64 0, .int .i64 0, .int .i64 0, .int .i64 0, .int .i64 0] 138]) := by rw [hW14_]; exact ⟨by simpa using (HS7_.out.set 0 rfl 0 (.int .i64 2))⟩
  rw [← hW14_]
  clear hW14_ HS7_
  go_wp2
  go_loopg [8] s.size (fun g v W => ∃ i : Int, v = .int .i64 i ∧ 0 ≤ i ∧ (g : Int) + i = (s.size : Int) ∧ Aside0 (∀ j : Int, 0 ≤ j → j < i → nsm (bt s j) = true) ∧ Aside0 (St w W [Box g9_ #[.int .i64 2, .string s, .int .i64 0, .int .i64 0, .int .i64 0, .int .i64 0, .int .i64 0, .int .i64 0, .int .i64 0] 138, Box g4_ #[.int .i64 0, .string (⟨#[]⟩), .int .i64 0, .int .i64 0, .int .i64 0, .int .i64 0, .int .i64 0, .int .i64 0, .int .i64 0] 138]))
  case atStart => exact ⟨0, rfl, by omega, by omega, ⟨fun j h0 h1 => by omega⟩, HS13_⟩
  case round =>
   revert wr gk
   intro gk15_ wr16_ hrel hK_
   obtain ⟨i, rfl, hi, hg, HI, HSr⟩ := hrel
   have hi1 : i ≤ (s.size : Int) := by omega
   by_cases c17_ : i < (s.size : Int)
   ·
    have c17_A := Aside0.mk c17_
    have c17_1 : decide (i < (s.size : Int)) = true := by simpa using c17_
    have hb18_ := bt_at s i
    have hb18_0 : (0 ≤ i) = True := eq_true (by omega)
    have hb18_2 : (i < (s.size : Int)) = True := eq_true (by omega)
    by_cases c19_ : (sml (bt s i)) = true
    ·
     have c19_A := Aside0.mk c19_
     clear c19_
     obtain ⟨q0_0, q0_1, q0_2, q0_3, q0_4, q0_5, q0_6, q0_7, q0_8, z0_0, z0_1, z0_2, z0_3, z0_4, z0_5, z0_6, z0_7, z0_8⟩ := HSr.out.c9 0 rfl
     go_wp2_with (go_at_call 96; refine stop ?_)
     refine Stop.mk ?_
     refine (smlR_calls (bt s i) _).mono ?_
     rintro e W ⟨rfl, hw_⟩
     rw [hw_]
     clear hw_ W
     rw [c19_A.out]
     obtain ⟨q1_0, q1_1, q1_2, q1_3, q1_4, q1_5, q1_6, q1_7, q1_8, z1_0, z1_1, z1_2, z1_3, z1_4, z1_5, z1_6, z1_7, z1_8⟩ := HSr.out.c9 1 rfl
     go_wp2
     clear q0_0 q0_1 q0_2 q0_3 q0_4 q0_5 q0_6 q0_7 q0_8 z0_0 z0_1 z0_2 z0_3 z0_4 z0_5 z0_6 z0_7 z0_8 q1_0 q1_1 q1_2 q1_3 q1_4 q1_5 q1_6 q1_7 q1_8 z1_0 z1_1 z1_2 z1_3 z1_4 z1_5 z1_6 z1_7 z1_8
     obtain ⟨W20_, hW22_⟩ : ∃ W, W = (((((((((wr16_.setCell ⟨g4_, 0, none⟩ (.int .i64 0)).setCell ⟨g4_, 1, none⟩ (.string (⟨#[]⟩))).setCell ⟨g4_, 2, none⟩ (.int .i64 0)).setCell ⟨g4_, 3, none⟩ (.int .i64 0)).setCell ⟨g4_, 4, none⟩ (.int .i64 0)).setCell ⟨g4_, 5, none⟩ (.int .i64 0)).setCell ⟨g4_, 6, none⟩ (.int .i64 0)).setCell ⟨g4_, 7, none⟩ (.int .i64 0)).setCell ⟨g4_, 8, none⟩ (.int .i64 0)) := ⟨_, rfl⟩
     have HS21_ : Aside0 (KitW.St w W20_ [Box g9_ #[.int .i64 2, .string s, .int .i64 0, .int .i64 0, .int .i64 0, .int .i64 0, .int .i64 0, .int .i64 0, .int .i64 0] 138, Box g4_ #[.int .i64 0, .string (⟨#[]⟩), .int .i64 0, .int .i64 0, .int .i64 0, .int .i64 0, .int .i64 0, .int .i64 0, .int .i64 0] 138]) := by rw [hW22_]; exact ⟨by simpa using (((((((((HSr.out.set 1 rfl 0 (.int .i64 0)).set 1 rfl 1 (.string (⟨#[]⟩))).set 1 rfl 2 (.int .i64 0)).set 1 rfl 3 (.int .i64 0)).set 1 rfl 4 (.int .i64 0)).set 1 rfl 5 (.int .i64 0)).set 1 rfl 6 (.int .i64 0)).set 1 rfl 7 (.int .i64 0)).set 1 rfl 8 (.int .i64 0))⟩
     rw [← hW22_]
     clear hW22_ HSr
     refine bodyPost_ret (results_ctt rfl _ _ g4_ 138 #[.int .i64 0, .string (⟨#[]⟩), .int .i64 0, .int .i64 0, .int .i64 0, .int .i64 0, .int .i64 0, .int .i64 0, .int .i64 0] (0, 0) _ rfl (HS21_.out.box 1 rfl) Tryd.underlying138 rfl (by kernel_rfl)) rfl ?_
     exact ⟨_, _, _, _, _, _, _, _, _, _, by rw [show nmE s = 61 from by unfold nmE; rw [allb_no (p := nsm) hi (by omega) (by simp [nsm, c17_A.out, Int.not_le.2 c17_A.out, c19_A.out])]; simp]; rfl, HS21_.out.B⟩
    ·
     have c19_A := Aside0.mk (Bool.eq_false_iff.2 c19_)
     clear c19_
     obtain ⟨q0_0, q0_1, q0_2, q0_3, q0_4, q0_5, q0_6, q0_7, q0_8, z0_0, z0_1, z0_2, z0_3, z0_4, z0_5, z0_6, z0_7, z0_8⟩ := HSr.out.c9 0 rfl
     go_wp2_with (go_at_call 96; refine stop ?_)
     refine Stop.mk ?_
     refine (smlR_calls (bt s i) _).mono ?_
     rintro e W ⟨rfl, hw_⟩
     rw [hw_]
     clear hw_ W
     rw [c19_A.out]
     go_wp2
     go_roundg (gk15_ - 1)
     case measure => omega
     case rel => exact ⟨i + 1, by go_num, by omega, by omega, ⟨all_step HI.out (by simp [nsm, c17_A.out, Int.not_le.2 c17_A.out, c19_A.out])⟩, HSr⟩
   ·
    have c17_1 : decide (i < (s.size : Int)) = false := by simpa using c17_
    have c17_2 : (s.size : Int) ≤ i := by omega
    have c17_A := Aside0.mk c17_2
    clear c17_
    by_cases c23_ : 31 < (s.size : Int)
    ·
     have c23_A := Aside0.mk c23_
     have c23_1 : decide (31 < (s.size : Int)) = true := by simpa using c23_
     obtain ⟨q1_0, q1_1, q1_2, q1_3, q1_4, q1_5, q1_6, q1_7, q1_8, z1_0, z1_1, z1_2, z1_3, z1_4, z1_5, z1_6, z1_7, z1_8⟩ := HSr.out.c9 1 rfl
     go_wp2
     clear q1_0 q1_1 q1_2 q1_3 q1_4 q1_5 q1_6 q1_7 q1_8 z1_0 z1_1 z1_2 z1_3 z1_4 z1_5 z1_6 z1_7 z1_8
     obtain ⟨W24_, hW26_⟩ : ∃ W, W = (((((((((wr16_.setCell ⟨g4_, 0, none⟩ (.int .i64 0)).setCell ⟨g4_, 1, none⟩ (.string (⟨#[]⟩))).setCell ⟨g4_, 2, none⟩ (.int .i64 0)).setCell ⟨g4_, 3, none⟩ (.int .i64 0)).setCell ⟨g4_, 4, none⟩ (.int .i64 0)).setCell ⟨g4_, 5, none⟩ (.int .i64 0)).setCell ⟨g4_, 6, none⟩ (.int .i64 0)).setCell ⟨g4_, 7, none⟩ (.int .i64 0)).setCell ⟨g4_, 8, none⟩ (.int .i64 0)) := ⟨_, rfl⟩
     have HS25_ : Aside0 (KitW.St w W24_ [Box g9_ #[.int .i64 2, .string s, .int .i64 0, .int .i64 0, .int .i64 0, .int .i64 0, .int .i64 0, .int .i64 0, .int .i64 0] 138, Box g4_ #[.int .i64 0, .string (⟨#[]⟩), .int .i64 0, .int .i64 0, .int .i64 0, .int .i64 0, .int .i64 0, .int .i64 0, .int .i64 0] 138]) := by rw [hW26_]; exact ⟨by simpa using (((((((((HSr.out.set 1 rfl 0 (.int .i64 0)).set 1 rfl 1 (.string (⟨#[]⟩))).set 1 rfl 2 (.int .i64 0)).set 1 rfl 3 (.int .i64 0)).set 1 rfl 4 (.int .i64 0)).set 1 rfl 5 (.int .i64 0)).set 1 rfl 6 (.int .i64 0)).set 1 rfl 7 (.int .i64 0)).set 1 rfl 8 (.int .i64 0))⟩
     rw [← hW26_]
     clear hW26_ HSr
     refine bodyPost_ret (results_ctt rfl _ _ g4_ 138 #[.int .i64 0, .string (⟨#[]⟩), .int .i64 0, .int .i64 0, .int .i64 0, .int .i64 0, .int .i64 0, .int .i64 0, .int .i64 0] (0, 0) _ rfl (HS25_.out.box 1 rfl) Tryd.underlying138 rfl (by kernel_rfl)) rfl ?_
     exact ⟨_, _, _, _, _, _, _, _, _, _, by rw [show nmE s = 6 from by unfold nmE; rw [allb_yes (p := nsm) (s := s) (fun j h0 h1 => HI.out j h0 (by omega))]; simp [c17_A.out, Int.not_lt.2 c17_A.out, c23_A.out, Int.not_le.2 c23_A.out]]; rfl, HS25_.out.B⟩
    ·
     have c23_1 : decide (31 < (s.size : Int)) = false := by simpa using c23_
     have c23_2 : (s.size : Int) ≤ 31 := by omega
     have c23_A := Aside0.mk c23_2
     clear c23_
     obtain ⟨q0_0, q0_1, q0_2, q0_3, q0_4, q0_5, q0_6, q0_7, q0_8, z0_0, z0_1, z0_2, z0_3, z0_4, z0_5, z0_6, z0_7, z0_8⟩ := HSr.out.c9 0 rfl
     obtain ⟨q1_0, q1_1, q1_2, q1_3, q1_4, q1_5, q1_6, q1_7, q1_8, z1_0, z1_1, z1_2, z1_3, z1_4, z1_5, z1_6, z1_7, z1_8⟩ := HSr.out.c9 1 rfl
     go_wp2
     clear q0_0 q0_1 q0_2 q0_3 q0_4 q0_5 q0_6 q0_7 q0_8 z0_0 z0_1 z0_2 z0_3 z0_4 z0_5 z0_6 z0_7 z0_8 q1_0 q1_1 q1_2 q1_3 q1_4 q1_5 q1_6 q1_7 q1_8 z1_0 z1_1 z1_2 z1_3 z1_4 z1_5 z1_6 z1_7 z1_8
     obtain ⟨W27_, hW29_⟩ : ∃ W, W = (((((((((wr16_.setCell ⟨g4_, 0, none⟩ (.int .i64 2)).setCell ⟨g4_, 1, none⟩ (.string s)).setCell ⟨g4_, 2, none⟩ (.int .i64 0)).setCell ⟨g4_, 3, none⟩ (.int .i64 0)).setCell ⟨g4_, 4, none⟩ (.int .i64 0)).setCell ⟨g4_, 5, none⟩ (.int .i64 0)).setCell ⟨g4_, 6, none⟩ (.int .i64 0)).setCell ⟨g4_, 7, none⟩ (.int .i64 0)).setCell ⟨g4_, 8, none⟩ (.int .i64 0)) := ⟨_, rfl⟩
     have HS28_ : Aside0 (KitW.St w W27_ [Box g9_ #[.int .i64 2, .string s, .int .i64 0, .int .i64 0, .int .i64 0, .int .i64 0, .int .i64 0, .int .i64 0, .int .i64 0] 138, Box g4_ #[.int .i64 2, .string s, .int .i64 0, .int .i64 0, .int .i64 0, .int .i64 0, .int .i64 0, .int .i64 0, .int .i64 0] 138]) := by rw [hW29_]; exact ⟨by simpa using (((((((((HSr.out.set 1 rfl 0 (.int .i64 2)).set 1 rfl 1 (.string s)).set 1 rfl 2 (.int .i64 0)).set 1 rfl 3 (.int .i64 0)).set 1 rfl 4 (.int .i64 0)).set 1 rfl 5 (.int .i64 0)).set 1 rfl 6 (.int .i64 0)).set 1 rfl 7 (.int .i64 0)).set 1 rfl 8 (.int .i64 0))⟩
     rw [← hW29_]
     clear hW29_ HSr
     refine bodyPost_ret (results_ctt rfl _ _ g4_ 138 #[.int .i64 2, .string s, .int .i64 0, .int .i64 0, .int .i64 0, .int .i64 0, .int .i64 0, .int .i64 0, .int .i64 0] (0, 0) _ rfl (HS28_.out.box 1 rfl) Tryd.underlying138 rfl (by kernel_rfl)) rfl ?_
     exact ⟨_, _, _, _, _, _, _, _, _, _, by rw [show nmE s = 0 from by unfold nmE; rw [allb_yes (p := nsm) (s := s) (fun j h0 h1 => HI.out j h0 (by omega))]; simp [c17_A.out, Int.not_lt.2 c17_A.out, c23_A.out, Int.not_lt.2 c23_A.out]]; rfl, HS28_.out.B⟩
def capR (s : ByteArray) : Bool := (!s.toList.isEmpty) && big (bt s 0) && allb rns s && nmE s == 0
set_option maxRecDepth 100000 in
set_option maxHeartbeats 4000000 in
theorem capR_calls (s : ByteArray) (w : World) (hs : s.size ≤ 140737488351232) : Calls Tryd.prog 55 #[.string s] w fun e w' => e = .returned (.bool (capR s)) ∧ Below w.heap.size w w' := by
  have HS0 := Aside0.mk (St.start w)
  go_enter Tryd.func55, Tryd.ntmps55
  by_cases c1_ : (s.toList.isEmpty) = true
  ·
   have c1_A := Aside0.mk c1_
   have c1_1 := c1_A.out
   clear c1_
   go_wp2
   go_ret
   exact ⟨by simp [capR, c1_A.out], HS0.out.B⟩
  ·
   have c1_A := Aside0.mk (Bool.eq_false_iff.2 c1_)
   have c1_1 := c1_A.out
   clear c1_
   have c1_3 : 0 < (s.size : Int) := toList_pos c1_A.out
   have hb2_ : ∀ h : 0 < s.size, ((s[0]'h).toNat : Int) = bt s 0 := bt_at s 0
   have hb2_1 : (0 < s.size) = True := eq_true (by omega)
   have hb2_2 : (0 < (s.size : Int)) = True := eq_true (by omega)
   by_cases c3_ : (big (bt s 0)) = true
   ·
    have c3_A := Aside0.mk c3_
    clear c3_
    by_cases c4_ : (allb rns s) = true
    ·
     have c4_A := Aside0.mk c4_
     clear c4_
     go_wp2_with (go_at_call 80; refine stop ?_)
     refine Stop.mk ?_
     refine (bigR_calls (bt s 0) _).mono ?_
     rintro e W ⟨rfl, hw_⟩
     rw [hw_]
     clear hw_ W
     rw [c3_A.out]
     go_wp2_with (go_at_call 81; refine stop ?_)
     refine Stop.mk ?_
     refine (runR_calls s hs _).mono ?_
     rintro e W ⟨t, rfl, hw_, ht⟩
     rw [hw_]
     clear hw_ W
     rw [c4_A.out] at ht
     go_wp2_with (go_at_call 82; refine stop ?_)
     refine Stop.mk ?_
     refine (namesR_calls s _ hs (by omega) c3_A.out).mono ?_
     rintro e W5_ ⟨k, tx, a, n, y, m, d, q, u, p, rfl, k7_⟩
     have HS6_ := Aside0.mk (HS0.out.below k7_)
     clear k7_ HS0
     go_upto_region 4 with (fail)
     obtain ⟨W8_, hW10_⟩ : ∃ W, W = (W5_.alloc (.cells #[.int .i64 k, .string tx, .int .i64 a, .int .i64 n, .int .i64 y, .int .i64 m, .int .i64 d, .int .i64 q, .int .i64 u] 138 (0, 0))) := ⟨_, rfl⟩
     obtain ⟨g11_, hg12_⟩ : ∃ g, g = W5_.heap.size := ⟨_, rfl⟩
     have HS9_ : Aside0 (KitW.St w W8_ [Box g11_ #[.int .i64 k, .string tx, .int .i64 a, .int .i64 n, .int .i64 y, .int .i64 m, .int .i64 d, .int .i64 q, .int .i64 u] 138]) := by rw [hW10_, hg12_]; exact ⟨by simpa using (HS6_.out.allocF #[.int .i64 k, .string tx, .int .i64 a, .int .i64 n, .int .i64 y, .int .i64 m, .int .i64 d, .int .i64 q, .int .i64 u] 138)⟩
     rw [← hW10_, ← hg12_]
     clear hW10_ hg12_ HS6_
     go_wp2
     go_ret
     exact ⟨by simp [capR, c1_A.out, c3_A.out, c4_A.out], HS9_.out.B⟩
    ·
     have c4_A := Aside0.mk (Bool.eq_false_iff.2 c4_)
     clear c4_
     go_wp2_with (go_at_call 80; refine stop ?_)
     refine Stop.mk ?_
     refine (bigR_calls (bt s 0) _).mono ?_
     rintro e W ⟨rfl, hw_⟩
     rw [hw_]
     clear hw_ W
     rw [c3_A.out]
     go_wp2_with (go_at_call 81; refine stop ?_)
     refine Stop.mk ?_
     refine (runR_calls s hs _).mono ?_
     rintro e W ⟨t, rfl, hw_, ht⟩
     rw [hw_]
     clear hw_ W
     rw [c4_A.out] at ht
     go_wp2
     go_ret
     exact ⟨by simp [capR, c1_A.out, c3_A.out, c4_A.out], HS0.out.B⟩
   ·
    have c3_A := Aside0.mk (Bool.eq_false_iff.2 c3_)
    clear c3_
    go_wp2_with (go_at_call 80; refine stop ?_)
    refine Stop.mk ?_
    refine (bigR_calls (bt s 0) _).mono ?_
    rintro e W ⟨rfl, hw_⟩
    rw [hw_]
    clear hw_ W
    rw [c3_A.out]
    go_wp2
    go_ret
    exact ⟨by simp [capR, c1_A.out, c3_A.out], HS0.out.B⟩
end Cn
end Go.Proofs.YtmhndfnmdkeiaaaDoor

namespace Go.Proofs.YtmhndfnmdkeiaaaDoor
open Go.RowKit Go.Proofs.YtmhndfnmdkeiaaaDoorW.PrintWords Go.Proofs.YtmhndfnmdkeiaaaDoorW.PrintLast Go.Proofs.YtmhndfnmdkeiaaaDoorW.PrintMore
open KitW
namespace Cn
set_option linter.unusedSimpArgs false
set_option linter.unusedVariables false
attribute [local go_sem] max2_int min2_int max_two min_two max_three min_three max_four min_four

theorem any_no {p : ByteArray → Bool} {l : List ByteArray} {i : Int} {x : ByteArray} (h0 : 0 ≤ i) (h1 : i < (l.length : Int)) (hx : x = l.getD i.toNat ByteArray.empty) (h : p x = false) : (l.any fun s => !p s) = true := by
  rw [List.any_eq_true]
  refine ⟨l.getD i.toNat ByteArray.empty, ?_, by rw [← hx, h]; rfl⟩
  rw [List.getD_eq_getElem?_getD, List.getElem?_eq_getElem (by omega)]
  exact List.getElem_mem _
theorem any_yes {p : ByteArray → Bool} {l : List ByteArray} (H : ∀ j : Nat, j < l.length → p (l.getD j ByteArray.empty) = true) : (l.any fun s => !p s) = false := by
  rw [← Bool.not_eq_true, List.any_eq_true]
  rintro ⟨x, hx, hp⟩
  obtain ⟨j, hj, rfl⟩ := List.getElem_of_mem hx
  have := H j hj
  rw [List.getD_eq_getElem?_getD, List.getElem?_eq_getElem hj] at this
  simp only [Option.getD_some] at this
  rw [this] at hp
  cases hp
theorem row_step {α : Type} {p : α → Bool} {l : List α} {z : α} {i : Int} {x : α} (hi : 0 ≤ i) (H : ∀ j : Nat, j < i.toNat → p (l.getD j z) = true) (hx : x = l.getD i.toNat z) (h : p x = true) : ∀ j : Nat, j < (i + 1).toNat → p (l.getD j z) = true := by
  intro j hj
  by_cases e : j = i.toNat
  · rw [e, ← hx]; exact h
  · exact H j (by omega)
set_option maxRecDepth 100000 in
set_option maxHeartbeats 4000000 in
theorem cl1_calls (s : ByteArray) (w : World) : Calls Tryd.prog 46 #[.string s] w fun e w' => e = .returned (.bool (!capN s)) ∧ w' = w := by
  go_enter Tryd.func46, Tryd.ntmps46
  go_wp2_with (go_at_call 47; refine stop ?_)
  refine Stop.mk ?_
  refine (capL_calls s _).mono ?_
  rintro e W ⟨rfl, hw_⟩
  rw [hw_]
  clear hw_ W
  go_wp2
  go_ret
  exact ⟨rfl, rfl⟩
set_option maxRecDepth 100000 in
set_option maxHeartbeats 4000000 in
theorem cl2_calls (s : ByteArray) (w : World) : Calls Tryd.prog 48 #[.string s] w fun e w' => e = .returned (.bool (!cur s)) ∧ w' = w := by
  go_enter Tryd.func48, Tryd.ntmps48
  go_wp2_with (go_at_call 49; refine stop ?_)
  refine Stop.mk ?_
  refine (curL_calls s _).mono ?_
  rintro e W ⟨rfl, hw_⟩
  rw [hw_]
  clear hw_ W
  go_wp2
  go_ret
  exact ⟨rfl, rfl⟩
set_option maxRecDepth 100000 in
set_option maxHeartbeats 4000000 in
theorem ixF1_calls (A0 : Option Addr) (c0 : Nat) (l : List ByteArray) (w : World) (hr : Kd.C Kd.string w A0 l.length l) :
    Calls Tryd.prog 76 #[.slice A0 l.length c0, .func (.func 46) #[] #[]] w fun e w' => ∃ r : Int, e = .returned (.int .i64 r) ∧ w' = w ∧ decide (0 ≤ r) = (l.any fun s => !capN s) := by
  have HR := Aside0.mk hr
  have hm := C_max hr
  clear hr
  have HS0 := Aside0.mk (St.start w)
  obtain ⟨n, hn⟩ : ∃ n, n = l.length := ⟨_, rfl⟩
  rw [← hn]
  rw [← hn] at HR hm
  have HN := Aside0.mk hn
  clear hn
  go_enter Tryd.func76, Tryd.ntmps76
  go_wp2
  go_loopg [8, 5] n (fun g v _ W => ∃ i : Int, v = .int .i64 i ∧ 0 ≤ i ∧ (g : Int) + i = (n : Int) ∧ Aside0 (∀ j : Nat, j < i.toNat → capN (l.getD j ByteArray.empty) = true) ∧ w = W)
  case atStart => exact ⟨0, rfl, by omega, by omega, ⟨fun j hj => by simp at hj⟩, rfl⟩
  case round =>
   revert wr gk
   intro gk1_ wr2_ hrel hK_
   obtain ⟨i, rfl, hi, hg, HI, rfl⟩ := hrel
   by_cases c3_ : i < ((n : Nat) : Int)
   ·
    have c3_A := Aside0.mk c3_
    have c3_1 : decide (i < ((n : Nat) : Int)) = true := by simpa using c3_
    obtain ⟨a4_, rfl⟩ := C_some HR.out (by omega)
    have E6_0 : 0 ≤ i := by omega
    have E6_1 : i < (n : Int) := by omega
    obtain ⟨x5_, hx5_⟩ : ∃ x, x = l.getD (i).toNat ByteArray.empty := ⟨_, rfl⟩
    have E6_ : Aside0 (w.cell? (a4_.add (i).toNat) = some (.string x5_)) := ⟨by rw [hx5_]; exact str_at HR.out (i) (by omega) (by omega)⟩
    have Hx5_ := Aside0.mk hx5_
    clear hx5_
    by_cases c7_ : (capN x5_) = true
    ·
     have c7_A := Aside0.mk c7_
     clear c7_
     have qe0 : w.cell? (a4_.add (i).toNat) = some (.string x5_) := pw_cell_below HS0.out.B E6_.out
     go_wp2_with (go_at_call 46; refine stop ?_)
     refine Stop.mk ?_
     refine (cl1_calls x5_ _).mono ?_
     rintro e W ⟨rfl, hw_⟩
     rw [hw_]
     clear hw_ W
     rw [c7_A.out]
     go_wp2
     go_roundg (gk1_ - 1)
     case measure => omega
     case rel => exact ⟨i + 1, by go_num, by omega, by omega, ⟨row_step hi HI.out Hx5_.out c7_A.out⟩, rfl⟩
    ·
     have c7_A := Aside0.mk (Bool.eq_false_iff.2 c7_)
     clear c7_
     have qe0 : w.cell? (a4_.add (i).toNat) = some (.string x5_) := pw_cell_below HS0.out.B E6_.out
     go_wp2_with (go_at_call 46; refine stop ?_)
     refine Stop.mk ?_
     refine (cl1_calls x5_ _).mono ?_
     rintro e W ⟨rfl, hw_⟩
     rw [hw_]
     clear hw_ W
     rw [c7_A.out]
     go_wp2
     go_ret
     exact ⟨i, rfl, rfl, by rw [any_no (p := capN) hi (by have := HN.out; omega) Hx5_.out c7_A.out]; exact decide_eq_true hi⟩
   ·
    have c3_1 : decide (i < ((n : Nat) : Int)) = false := by simpa using c3_
    have c3_2 : ((n : Nat) : Int) ≤ i := by omega
    have c3_A := Aside0.mk c3_2
    clear c3_
    go_wp2
    go_ret
    exact ⟨-1, rfl, rfl, by rw [any_yes (p := capN) (fun j hj => HI.out j (by have := HN.out; omega))]; rfl⟩
set_option maxRecDepth 100000 in
set_option maxHeartbeats 4000000 in
theorem coF1_calls (A0 : Option Addr) (c0 : Nat) (l : List ByteArray) (w : World) (hr : Kd.C Kd.string w A0 l.length l) :
    Calls Tryd.prog 45 #[.slice A0 l.length c0, .func (.func 46) #[] #[]] w fun e w' => e = .returned (.bool (l.any fun s => !capN s)) ∧ w' = w := by
  go_enter Tryd.func45, Tryd.ntmps45
  go_wp2_with (go_at_call 76; refine stop ?_)
  refine Stop.mk ?_
  refine (ixF1_calls A0 c0 l _ hr).mono ?_
  rintro e W ⟨r, rfl, hw_, hd⟩
  rw [hw_]
  clear hw_ W
  go_wp2
  go_ret
  exact ⟨by rw [← hd]; rfl, rfl⟩
set_option maxRecDepth 100000 in
set_option maxHeartbeats 4000000 in
theorem ixF2_calls (A0 : Option Addr) (c0 : Nat) (l : List ByteArray) (w : World) (hr : Kd.C Kd.string w A0 l.length l) :
    Calls Tryd.prog 76 #[.slice A0 l.length c0, .func (.func 48) #[] #[]] w fun e w' => ∃ r : Int, e = .returned (.int .i64 r) ∧ w' = w ∧ decide (0 ≤ r) = (l.any fun s => !cur s) := by
  have HR := Aside0.mk hr
  have hm := C_max hr
  clear hr
  have HS0 := Aside0.mk (St.start w)
  obtain ⟨n, hn⟩ : ∃ n, n = l.length := ⟨_, rfl⟩
  rw [← hn]
  rw [← hn] at HR hm
  have HN := Aside0.mk hn
  clear hn
  go_enter Tryd.func76, Tryd.ntmps76
  go_wp2
  go_loopg [8, 5] n (fun g v _ W => ∃ i : Int, v = .int .i64 i ∧ 0 ≤ i ∧ (g : Int) + i = (n : Int) ∧ Aside0 (∀ j : Nat, j < i.toNat → cur (l.getD j ByteArray.empty) = true) ∧ w = W)
  case atStart => exact ⟨0, rfl, by omega, by omega, ⟨fun j hj => by simp at hj⟩, rfl⟩
  case round =>
   revert wr gk
   intro gk1_ wr2_ hrel hK_
   obtain ⟨i, rfl, hi, hg, HI, rfl⟩ := hrel
   by_cases c3_ : i < ((n : Nat) : Int)
   ·
    have c3_A := Aside0.mk c3_
    have c3_1 : decide (i < ((n : Nat) : Int)) = true := by simpa using c3_
    obtain ⟨a4_, rfl⟩ := C_some HR.out (by omega)
    have E6_0 : 0 ≤ i := by omega
    have E6_1 : i < (n : Int) := by omega
    obtain ⟨x5_, hx5_⟩ : ∃ x, x = l.getD (i).toNat ByteArray.empty := ⟨_, rfl⟩
    have E6_ : Aside0 (w.cell? (a4_.add (i).toNat) = some (.string x5_)) := ⟨by rw [hx5_]; exact str_at HR.out (i) (by omega) (by omega)⟩
    have Hx5_ := Aside0.mk hx5_
    clear hx5_
    by_cases c7_ : (cur x5_) = true
    ·
     have c7_A := Aside0.mk c7_
     clear c7_
     have qe0 : w.cell? (a4_.add (i).toNat) = some (.string x5_) := pw_cell_below HS0.out.B E6_.out
     go_wp2_with (go_at_call 48; refine stop ?_)
     refine Stop.mk ?_
     refine (cl2_calls x5_ _).mono ?_
     rintro e W ⟨rfl, hw_⟩
     rw [hw_]
     clear hw_ W
     rw [c7_A.out]
     go_wp2
     go_roundg (gk1_ - 1)
     case measure => omega
     case rel => exact ⟨i + 1, by go_num, by omega, by omega, ⟨row_step hi HI.out Hx5_.out c7_A.out⟩, rfl⟩
    ·
     have c7_A := Aside0.mk (Bool.eq_false_iff.2 c7_)
     clear c7_
     have qe0 : w.cell? (a4_.add (i).toNat) = some (.string x5_) := pw_cell_below HS0.out.B E6_.out
     go_wp2_with (go_at_call 48; refine stop ?_)
     refine Stop.mk ?_
     refine (cl2_calls x5_ _).mono ?_
     rintro e W ⟨rfl, hw_⟩
     rw [hw_]
     clear hw_ W
     rw [c7_A.out]
     go_wp2
     go_ret
     exact ⟨i, rfl, rfl, by rw [any_no (p := cur) hi (by have := HN.out; omega) Hx5_.out c7_A.out]; exact decide_eq_true hi⟩
   ·
    have c3_1 : decide (i < ((n : Nat) : Int)) = false := by simpa using c3_
    have c3_2 : ((n : Nat) : Int) ≤ i := by omega
    have c3_A := Aside0.mk c3_2
    clear c3_
    go_wp2
    go_ret
    exact ⟨-1, rfl, rfl, by rw [any_yes (p := cur) (fun j hj => HI.out j (by have := HN.out; omega))]; rfl⟩
set_option maxRecDepth 100000 in
set_option maxHeartbeats 4000000 in
theorem coF2_calls (A0 : Option Addr) (c0 : Nat) (l : List ByteArray) (w : World) (hr : Kd.C Kd.string w A0 l.length l) :
    Calls Tryd.prog 45 #[.slice A0 l.length c0, .func (.func 48) #[] #[]] w fun e w' => e = .returned (.bool (l.any fun s => !cur s)) ∧ w' = w := by
  go_enter Tryd.func45, Tryd.ntmps45
  go_wp2_with (go_at_call 76; refine stop ?_)
  refine Stop.mk ?_
  refine (ixF2_calls A0 c0 l _ hr).mono ?_
  rintro e W ⟨r, rfl, hw_, hd⟩
  rw [hw_]
  clear hw_ W
  go_wp2
  go_ret
  exact ⟨by rw [← hd]; rfl, rfl⟩
end Cn
end Go.Proofs.YtmhndfnmdkeiaaaDoor

namespace Go.Proofs.YtmhndfnmdkeiaaaDoor
open Go.RowKit Go.Proofs.YtmhndfnmdkeiaaaDoorW.PrintWords Go.Proofs.YtmhndfnmdkeiaaaDoorW.PrintLast Go.Proofs.YtmhndfnmdkeiaaaDoorW.PrintMore
open KitW
namespace Cn
set_option linter.unusedSimpArgs false
set_option linter.unusedVariables false
attribute [local go_sem] max2_int min2_int max_two min_two max_three min_three max_four min_four

def lstB (l0 l1 : List ByteArray) (l2 : List Int) (h ce s st : Int) : Bool :=
  decide ((l0.length : Int) ≤ 64) && decide ((l1.length : Int) ≤ 4096) && decide ((l2.length : Int) ≤ 16384) && up sLt l0 && up sLt l1 && up iLt l2 && !(l0.any fun s => !capN s) && !(l1.any fun s => !cur s) && wi h 3660 && wi ce 32768 && wi s 16384 && wi st 16384
set_option maxRecDepth 100000 in
set_option maxHeartbeats 4000000 in
theorem lists_calls (A0 : Option Addr) (c0 : Nat) (l0 : List ByteArray) (A1 : Option Addr) (c1 : Nat) (l1 : List ByteArray) (A2 : Option Addr) (c2 : Nat) (l2 : List Int) (h ce s st : Int) (A7 : Option Addr) (n7 c7 : Nat) (w : World) (r0 : Kd.C Kd.string w A0 l0.length l0) (r1 : Kd.C Kd.string w A1 l1.length l1) (r2 : Kd.C (Kd.int .i64) w A2 l2.length l2) : Calls Tryd.prog 22 #[.agg #[.slice A0 l0.length c0, .slice A1 l1.length c1, .slice A2 l2.length c2, .int .i64 h, .int .i64 ce, .int .i64 s, .int .i64 st, .slice A7 n7 c7]] w fun e w' => e = .returned (.bool (lstB l0 l1 l2 h ce s st)) ∧ Below w.heap.size w w' := by
  have R0 := Aside0.mk r0
  have R1 := Aside0.mk r1
  have R2 := Aside0.mk r2
  have m0 := C_max r0
  have m1 := C_max r1
  have m2 := C_max r2
  clear r0 r1 r2
  have HS0 := Aside0.mk (St.start w)
  go_enter Tryd.func22, Tryd.ntmps22
  go_upto_region 1 with (fail)
  obtain ⟨W1_, hW3_⟩ : ∃ W, W = (w.alloc (.cells #[.slice A0 l0.length c0, .slice A1 l1.length c1, .slice A2 l2.length c2, .int .i64 h, .int .i64 ce, .int .i64 s, .int .i64 st, .slice A7 n7 c7] 26 (0, 0))) := ⟨_, rfl⟩
  obtain ⟨g4_, hg5_⟩ : ∃ g, g = w.heap.size := ⟨_, rfl⟩
  have HS2_ : Aside0 (KitW.St w W1_ [Box g4_ #[.slice A0 l0.length c0, .slice A1 l1.length c1, .slice A2 l2.length c2, .int .i64 h, .int .i64 ce, .int .i64 s, .int .i64 st, .slice A7 n7 c7] 26]) := by rw [hW3_, hg5_]; exact ⟨by simpa using (HS0.out.allocF #[.slice A0 l0.length c0, .slice A1 l1.length c1, .slice A2 l2.length c2, .int .i64 h, .int .i64 ce, .int .i64 s, .int .i64 st, .slice A7 n7 c7] 26)⟩
  rw [← hW3_, ← hg5_]
  clear hW3_ hg5_ HS0
  by_cases c6_ : 64 < ((l0.length : Nat) : Int)
  ·
   have c6_A := Aside0.mk c6_
   have c6_1 : decide (64 < ((l0.length : Nat) : Int)) = true := by simpa using c6_
   obtain ⟨q0_0, q0_1, q0_2, q0_3, q0_4, q0_5, q0_6, q0_7, z0_0, z0_1, z0_2, z0_3, z0_4, z0_5, z0_6, z0_7⟩ := HS2_.out.c8 0 rfl
   go_wp2
   go_ret
   exact ⟨by simp [lstB, c6_A.out, Int.not_le.2 c6_A.out], HS2_.out.B⟩
  ·
   have c6_1 : decide (64 < ((l0.length : Nat) : Int)) = false := by simpa using c6_
   have c6_2 : ((l0.length : Nat) : Int) ≤ 64 := by omega
   have c6_A := Aside0.mk c6_2
   clear c6_
   by_cases c7_ : 4096 < ((l1.length : Nat) : Int)
   ·
    have c7_A := Aside0.mk c7_
    have c7_1 : decide (4096 < ((l1.length : Nat) : Int)) = true := by simpa using c7_
    obtain ⟨q0_0, q0_1, q0_2, q0_3, q0_4, q0_5, q0_6, q0_7, z0_0, z0_1, z0_2, z0_3, z0_4, z0_5, z0_6, z0_7⟩ := HS2_.out.c8 0 rfl
    go_wp2
    go_ret
    exact ⟨by simp [lstB, c6_A.out, Int.not_lt.2 c6_A.out, c7_A.out, Int.not_le.2 c7_A.out], HS2_.out.B⟩
   ·
    have c7_1 : decide (4096 < ((l1.length : Nat) : Int)) = false := by simpa using c7_
    have c7_2 : ((l1.length : Nat) : Int) ≤ 4096 := by omega
    have c7_A := Aside0.mk c7_2
    clear c7_
    by_cases c8_ : 16384 < ((l2.length : Nat) : Int)
    ·
     have c8_A := Aside0.mk c8_
     have c8_1 : decide (16384 < ((l2.length : Nat) : Int)) = true := by simpa using c8_
     obtain ⟨q0_0, q0_1, q0_2, q0_3, q0_4, q0_5, q0_6, q0_7, z0_0, z0_1, z0_2, z0_3, z0_4, z0_5, z0_6, z0_7⟩ := HS2_.out.c8 0 rfl
     go_wp2
     go_ret
     exact ⟨by simp [lstB, c6_A.out, Int.not_lt.2 c6_A.out, c7_A.out, Int.not_lt.2 c7_A.out, c8_A.out, Int.not_le.2 c8_A.out], HS2_.out.B⟩
    ·
     have c8_1 : decide (16384 < ((l2.length : Nat) : Int)) = false := by simpa using c8_
     have c8_2 : ((l2.length : Nat) : Int) ≤ 16384 := by omega
     have c8_A := Aside0.mk c8_2
     clear c8_
     by_cases c9_ : (up sLt l0) = true
     ·
      have c9_A := Aside0.mk c9_
      clear c9_
      by_cases c10_ : (up sLt l1) = true
      ·
       have c10_A := Aside0.mk c10_
       clear c10_
       by_cases c11_ : (up iLt l2) = true
       ·
        have c11_A := Aside0.mk c11_
        clear c11_
        obtain ⟨q0_0, q0_1, q0_2, q0_3, q0_4, q0_5, q0_6, q0_7, z0_0, z0_1, z0_2, z0_3, z0_4, z0_5, z0_6, z0_7⟩ := HS2_.out.c8 0 rfl
        go_wp2_with (go_at_call 43; refine stop ?_)
        refine Stop.mk ?_
        refine (riseS_calls A0 c0 l0 _ (Kd.C_below R0.out HS2_.out.B)).mono ?_
        rintro e W12_ ⟨rfl, k14_⟩
        clear q0_0 q0_1 q0_2 q0_3 q0_4 q0_5 q0_6 q0_7 z0_0 z0_1 z0_2 z0_3 z0_4 z0_5 z0_6 z0_7
        have HS13_ := Aside0.mk (HS2_.out.below k14_)
        clear k14_ HS2_
        rw [c9_A.out]
        obtain ⟨q0_0, q0_1, q0_2, q0_3, q0_4, q0_5, q0_6, q0_7, z0_0, z0_1, z0_2, z0_3, z0_4, z0_5, z0_6, z0_7⟩ := HS13_.out.c8 0 rfl
        go_wp2_with (go_at_call 43; refine stop ?_)
        refine Stop.mk ?_
        refine (riseS_calls A1 c1 l1 _ (Kd.C_below R1.out HS13_.out.B)).mono ?_
        rintro e W15_ ⟨rfl, k17_⟩
        clear q0_0 q0_1 q0_2 q0_3 q0_4 q0_5 q0_6 q0_7 z0_0 z0_1 z0_2 z0_3 z0_4 z0_5 z0_6 z0_7
        have HS16_ := Aside0.mk (HS13_.out.below k17_)
        clear k17_ HS13_
        rw [c10_A.out]
        obtain ⟨q0_0, q0_1, q0_2, q0_3, q0_4, q0_5, q0_6, q0_7, z0_0, z0_1, z0_2, z0_3, z0_4, z0_5, z0_6, z0_7⟩ := HS16_.out.c8 0 rfl
        go_wp2_with (go_at_call 44; refine stop ?_)
        refine Stop.mk ?_
        refine (riseI_calls A2 c2 l2 _ (Kd.C_below R2.out HS16_.out.B)).mono ?_
        rintro e W18_ ⟨rfl, k20_⟩
        clear q0_0 q0_1 q0_2 q0_3 q0_4 q0_5 q0_6 q0_7 z0_0 z0_1 z0_2 z0_3 z0_4 z0_5 z0_6 z0_7
        have HS19_ := Aside0.mk (HS16_.out.below k20_)
        clear k20_ HS16_
        rw [c11_A.out]
        by_cases c21_ : (l0.any fun s => !capN s) = true
        ·
         have c21_A := Aside0.mk c21_
         clear c21_
         obtain ⟨q0_0, q0_1, q0_2, q0_3, q0_4, q0_5, q0_6, q0_7, z0_0, z0_1, z0_2, z0_3, z0_4, z0_5, z0_6, z0_7⟩ := HS19_.out.c8 0 rfl
         go_wp2_with (go_at_call 45; refine stop ?_)
         refine Stop.mk ?_
         refine (coF1_calls A0 c0 l0 _ (Kd.C_below R0.out HS19_.out.B)).mono ?_
         rintro e W ⟨rfl, hw_⟩
         rw [hw_]
         clear hw_ W
         rw [c21_A.out]
         go_wp2
         go_ret
         exact ⟨by simp [lstB, c6_A.out, Int.not_lt.2 c6_A.out, c7_A.out, Int.not_lt.2 c7_A.out, c8_A.out, Int.not_lt.2 c8_A.out, c9_A.out, c10_A.out, c11_A.out, c21_A.out], HS19_.out.B⟩
        ·
         have c21_A := Aside0.mk (Bool.eq_false_iff.2 c21_)
         clear c21_
         by_cases c22_ : (l1.any fun s => !cur s) = true
         ·
          have c22_A := Aside0.mk c22_
          clear c22_
          obtain ⟨q0_0, q0_1, q0_2, q0_3, q0_4, q0_5, q0_6, q0_7, z0_0, z0_1, z0_2, z0_3, z0_4, z0_5, z0_6, z0_7⟩ := HS19_.out.c8 0 rfl
          go_wp2_with (go_at_call 45; refine stop ?_)
          refine Stop.mk ?_
          refine (coF1_calls A0 c0 l0 _ (Kd.C_below R0.out HS19_.out.B)).mono ?_
          rintro e W ⟨rfl, hw_⟩
          rw [hw_]
          clear hw_ W
          rw [c21_A.out]
          go_wp2_with (go_at_call 45; refine stop ?_)
          refine Stop.mk ?_
          refine (coF2_calls A1 c1 l1 _ (Kd.C_below R1.out HS19_.out.B)).mono ?_
          rintro e W ⟨rfl, hw_⟩
          rw [hw_]
          clear hw_ W
          rw [c22_A.out]
          go_wp2
          go_ret
          exact ⟨by simp [lstB, c6_A.out, Int.not_lt.2 c6_A.out, c7_A.out, Int.not_lt.2 c7_A.out, c8_A.out, Int.not_lt.2 c8_A.out, c9_A.out, c10_A.out, c11_A.out, c21_A.out, c22_A.out], HS19_.out.B⟩
         ·
          have c22_A := Aside0.mk (Bool.eq_false_iff.2 c22_)
          clear c22_
          obtain ⟨q0_0, q0_1, q0_2, q0_3, q0_4, q0_5, q0_6, q0_7, z0_0, z0_1, z0_2, z0_3, z0_4, z0_5, z0_6, z0_7⟩ := HS19_.out.c8 0 rfl
          go_wp2_with (go_at_call 45; refine stop ?_)
          refine Stop.mk ?_
          refine (coF1_calls A0 c0 l0 _ (Kd.C_below R0.out HS19_.out.B)).mono ?_
          rintro e W ⟨rfl, hw_⟩
          rw [hw_]
          clear hw_ W
          rw [c21_A.out]
          go_wp2_with (go_at_call 45; refine stop ?_)
          refine Stop.mk ?_
          refine (coF2_calls A1 c1 l1 _ (Kd.C_below R1.out HS19_.out.B)).mono ?_
          rintro e W ⟨rfl, hw_⟩
          rw [hw_]
          clear hw_ W
          rw [c22_A.out]
          by_cases c23_ : (wi h 3660) = true
          ·
           have c23_A := Aside0.mk c23_
           clear c23_
           by_cases c24_ : (wi ce 32768) = true
           ·
            have c24_A := Aside0.mk c24_
            clear c24_
            by_cases c25_ : (wi s 16384) = true
            ·
             have c25_A := Aside0.mk c25_
             clear c25_
             by_cases c26_ : (wi st 16384) = true
             ·
              have c26_A := Aside0.mk c26_
              clear c26_
              go_wp2_with (go_at_call 50; refine stop ?_)
              refine Stop.mk ?_
              refine (wiI_calls h 3660 _).mono ?_
              rintro e W ⟨rfl, hw_⟩
              rw [hw_]
              clear hw_ W
              rw [c23_A.out]
              go_wp2_with (go_at_call 50; refine stop ?_)
              refine Stop.mk ?_
              refine (wiI_calls ce 32768 _).mono ?_
              rintro e W ⟨rfl, hw_⟩
              rw [hw_]
              clear hw_ W
              rw [c24_A.out]
              go_wp2_with (go_at_call 50; refine stop ?_)
              refine Stop.mk ?_
              refine (wiI_calls s 16384 _).mono ?_
              rintro e W ⟨rfl, hw_⟩
              rw [hw_]
              clear hw_ W
              rw [c25_A.out]
              go_wp2_with (go_at_call 50; refine stop ?_)
              refine Stop.mk ?_
              refine (wiI_calls st 16384 _).mono ?_
              rintro e W ⟨rfl, hw_⟩
              rw [hw_]
              clear hw_ W
              rw [c26_A.out]
              go_wp2
              go_ret
              exact ⟨by simp [lstB, c6_A.out, Int.not_lt.2 c6_A.out, c7_A.out, Int.not_lt.2 c7_A.out, c8_A.out, Int.not_lt.2 c8_A.out, c9_A.out, c10_A.out, c11_A.out, c21_A.out, c22_A.out, c23_A.out, c24_A.out, c25_A.out, c26_A.out], HS19_.out.B⟩
             ·
              have c26_A := Aside0.mk (Bool.eq_false_iff.2 c26_)
              clear c26_
              go_wp2_with (go_at_call 50; refine stop ?_)
              refine Stop.mk ?_
              refine (wiI_calls h 3660 _).mono ?_
              rintro e W ⟨rfl, hw_⟩
              rw [hw_]
              clear hw_ W
              rw [c23_A.out]
              go_wp2_with (go_at_call 50; refine stop ?_)
              refine Stop.mk ?_
              refine (wiI_calls ce 32768 _).mono ?_
              rintro e W ⟨rfl, hw_⟩
              rw [hw_]
              clear hw_ W
              rw [c24_A.out]
              go_wp2_with (go_at_call 50; refine stop ?_)
              refine Stop.mk ?_
              refine (wiI_calls s 16384 _).mono ?_
              rintro e W ⟨rfl, hw_⟩
              rw [hw_]
              clear hw_ W
              rw [c25_A.out]
              go_wp2_with (go_at_call 50; refine stop ?_)
              refine Stop.mk ?_
              refine (wiI_calls st 16384 _).mono ?_
              rintro e W ⟨rfl, hw_⟩
              rw [hw_]
              clear hw_ W
              rw [c26_A.out]
              go_wp2
              go_ret
              exact ⟨by simp [lstB, c6_A.out, Int.not_lt.2 c6_A.out, c7_A.out, Int.not_lt.2 c7_A.out, c8_A.out, Int.not_lt.2 c8_A.out, c9_A.out, c10_A.out, c11_A.out, c21_A.out, c22_A.out, c23_A.out, c24_A.out, c25_A.out, c26_A.out], HS19_.out.B⟩
            ·
             have c25_A := Aside0.mk (Bool.eq_false_iff.2 c25_)
             clear c25_
             go_wp2_with (go_at_call 50; refine stop ?_)
             refine Stop.mk ?_
             refine (wiI_calls h 3660 _).mono ?_
             rintro e W ⟨rfl, hw_⟩
             rw [hw_]
             clear hw_ W
             rw [c23_A.out]
             go_wp2_with (go_at_call 50; refine stop ?_)
             refine Stop.mk ?_
             refine (wiI_calls ce 32768 _).mono ?_
             rintro e W ⟨rfl, hw_⟩
             rw [hw_]
             clear hw_ W
             rw [c24_A.out]
             go_wp2_with (go_at_call 50; refine stop ?_)
             refine Stop.mk ?_
             refine (wiI_calls s 16384 _).mono ?_
             rintro e W ⟨rfl, hw_⟩
             rw [hw_]
             clear hw_ W
             rw [c25_A.out]
             go_wp2
             go_ret
             exact ⟨by simp [lstB, c6_A.out, Int.not_lt.2 c6_A.out, c7_A.out, Int.not_lt.2 c7_A.out, c8_A.out, Int.not_lt.2 c8_A.out, c9_A.out, c10_A.out, c11_A.out, c21_A.out, c22_A.out, c23_A.out, c24_A.out, c25_A.out], HS19_.out.B⟩
           ·
            have c24_A := Aside0.mk (Bool.eq_false_iff.2 c24_)
            clear c24_
            go_wp2_with (go_at_call 50; refine stop ?_)
            refine Stop.mk ?_
            refine (wiI_calls h 3660 _).mono ?_
            rintro e W ⟨rfl, hw_⟩
            rw [hw_]
            clear hw_ W
            rw [c23_A.out]
            go_wp2_with (go_at_call 50; refine stop ?_)
            refine Stop.mk ?_
            refine (wiI_calls ce 32768 _).mono ?_
            rintro e W ⟨rfl, hw_⟩
            rw [hw_]
            clear hw_ W
            rw [c24_A.out]
            go_wp2
            go_ret
            exact ⟨by simp [lstB, c6_A.out, Int.not_lt.2 c6_A.out, c7_A.out, Int.not_lt.2 c7_A.out, c8_A.out, Int.not_lt.2 c8_A.out, c9_A.out, c10_A.out, c11_A.out, c21_A.out, c22_A.out, c23_A.out, c24_A.out], HS19_.out.B⟩
          ·
           have c23_A := Aside0.mk (Bool.eq_false_iff.2 c23_)
           clear c23_
           go_wp2_with (go_at_call 50; refine stop ?_)
           refine Stop.mk ?_
           refine (wiI_calls h 3660 _).mono ?_
           rintro e W ⟨rfl, hw_⟩
           rw [hw_]
           clear hw_ W
           rw [c23_A.out]
           go_wp2
           go_ret
           exact ⟨by simp [lstB, c6_A.out, Int.not_lt.2 c6_A.out, c7_A.out, Int.not_lt.2 c7_A.out, c8_A.out, Int.not_lt.2 c8_A.out, c9_A.out, c10_A.out, c11_A.out, c21_A.out, c22_A.out, c23_A.out], HS19_.out.B⟩
       ·
        have c11_A := Aside0.mk (Bool.eq_false_iff.2 c11_)
        clear c11_
        obtain ⟨q0_0, q0_1, q0_2, q0_3, q0_4, q0_5, q0_6, q0_7, z0_0, z0_1, z0_2, z0_3, z0_4, z0_5, z0_6, z0_7⟩ := HS2_.out.c8 0 rfl
        go_wp2_with (go_at_call 43; refine stop ?_)
        refine Stop.mk ?_
        refine (riseS_calls A0 c0 l0 _ (Kd.C_below R0.out HS2_.out.B)).mono ?_
        rintro e W27_ ⟨rfl, k29_⟩
        clear q0_0 q0_1 q0_2 q0_3 q0_4 q0_5 q0_6 q0_7 z0_0 z0_1 z0_2 z0_3 z0_4 z0_5 z0_6 z0_7
        have HS28_ := Aside0.mk (HS2_.out.below k29_)
        clear k29_ HS2_
        rw [c9_A.out]
        obtain ⟨q0_0, q0_1, q0_2, q0_3, q0_4, q0_5, q0_6, q0_7, z0_0, z0_1, z0_2, z0_3, z0_4, z0_5, z0_6, z0_7⟩ := HS28_.out.c8 0 rfl
        go_wp2_with (go_at_call 43; refine stop ?_)
        refine Stop.mk ?_
        refine (riseS_calls A1 c1 l1 _ (Kd.C_below R1.out HS28_.out.B)).mono ?_
        rintro e W30_ ⟨rfl, k32_⟩
        clear q0_0 q0_1 q0_2 q0_3 q0_4 q0_5 q0_6 q0_7 z0_0 z0_1 z0_2 z0_3 z0_4 z0_5 z0_6 z0_7
        have HS31_ := Aside0.mk (HS28_.out.below k32_)
        clear k32_ HS28_
        rw [c10_A.out]
        obtain ⟨q0_0, q0_1, q0_2, q0_3, q0_4, q0_5, q0_6, q0_7, z0_0, z0_1, z0_2, z0_3, z0_4, z0_5, z0_6, z0_7⟩ := HS31_.out.c8 0 rfl
        go_wp2_with (go_at_call 44; refine stop ?_)
        refine Stop.mk ?_
        refine (riseI_calls A2 c2 l2 _ (Kd.C_below R2.out HS31_.out.B)).mono ?_
        rintro e W33_ ⟨rfl, k35_⟩
        clear q0_0 q0_1 q0_2 q0_3 q0_4 q0_5 q0_6 q0_7 z0_0 z0_1 z0_2 z0_3 z0_4 z0_5 z0_6 z0_7
        have HS34_ := Aside0.mk (HS31_.out.below k35_)
        clear k35_ HS31_
        rw [c11_A.out]
        obtain ⟨q0_0, q0_1, q0_2, q0_3, q0_4, q0_5, q0_6, q0_7, z0_0, z0_1, z0_2, z0_3, z0_4, z0_5, z0_6, z0_7⟩ := HS34_.out.c8 0 rfl
        go_wp2
        go_ret
        exact ⟨by simp [lstB, c6_A.out, Int.not_lt.2 c6_A.out, c7_A.out, Int.not_lt.2 c7_A.out, c8_A.out, Int.not_lt.2 c8_A.out, c9_A.out, c10_A.out, c11_A.out], HS34_.out.B⟩
      ·
       have c10_A := Aside0.mk (Bool.eq_false_iff.2 c10_)
       clear c10_
       obtain ⟨q0_0, q0_1, q0_2, q0_3, q0_4, q0_5, q0_6, q0_7, z0_0, z0_1, z0_2, z0_3, z0_4, z0_5, z0_6, z0_7⟩ := HS2_.out.c8 0 rfl
       go_wp2_with (go_at_call 43; refine stop ?_)
       refine Stop.mk ?_
       refine (riseS_calls A0 c0 l0 _ (Kd.C_below R0.out HS2_.out.B)).mono ?_
       rintro e W36_ ⟨rfl, k38_⟩
       clear q0_0 q0_1 q0_2 q0_3 q0_4 q0_5 q0_6 q0_7 z0_0 z0_1 z0_2 z0_3 z0_4 z0_5 z0_6 z0_7
       have HS37_ := Aside0.mk (HS2_.out.below k38_)
       clear k38_ HS2_
       rw [c9_A.out]
       obtain ⟨q0_0, q0_1, q0_2, q0_3, q0_4, q0_5, q0_6, q0_7, z0_0, z0_1, z0_2, z0_3, z0_4, z0_5, z0_6, z0_7⟩ := HS37_.out.c8 0 rfl
       go_wp2_with (go_at_call 43; refine stop ?_)
       refine Stop.mk ?_
       refine (riseS_calls A1 c1 l1 _ (Kd.C_below R1.out HS37_.out.B)).mono ?_
       rintro e W39_ ⟨rfl, k41_⟩
       clear q0_0 q0_1 q0_2 q0_3 q0_4 q0_5 q0_6 q0_7 z0_0 z0_1 z0_2 z0_3 z0_4 z0_5 z0_6 z0_7
       have HS40_ := Aside0.mk (HS37_.out.below k41_)
       clear k41_ HS37_
       rw [c10_A.out]
       obtain ⟨q0_0, q0_1, q0_2, q0_3, q0_4, q0_5, q0_6, q0_7, z0_0, z0_1, z0_2, z0_3, z0_4, z0_5, z0_6, z0_7⟩ := HS40_.out.c8 0 rfl
       go_wp2
       go_ret
       exact ⟨by simp [lstB, c6_A.out, Int.not_lt.2 c6_A.out, c7_A.out, Int.not_lt.2 c7_A.out, c8_A.out, Int.not_lt.2 c8_A.out, c9_A.out, c10_A.out], HS40_.out.B⟩
     ·
      have c9_A := Aside0.mk (Bool.eq_false_iff.2 c9_)
      clear c9_
      obtain ⟨q0_0, q0_1, q0_2, q0_3, q0_4, q0_5, q0_6, q0_7, z0_0, z0_1, z0_2, z0_3, z0_4, z0_5, z0_6, z0_7⟩ := HS2_.out.c8 0 rfl
      go_wp2_with (go_at_call 43; refine stop ?_)
      refine Stop.mk ?_
      refine (riseS_calls A0 c0 l0 _ (Kd.C_below R0.out HS2_.out.B)).mono ?_
      rintro e W42_ ⟨rfl, k44_⟩
      clear q0_0 q0_1 q0_2 q0_3 q0_4 q0_5 q0_6 q0_7 z0_0 z0_1 z0_2 z0_3 z0_4 z0_5 z0_6 z0_7
      have HS43_ := Aside0.mk (HS2_.out.below k44_)
      clear k44_ HS2_
      rw [c9_A.out]
      obtain ⟨q0_0, q0_1, q0_2, q0_3, q0_4, q0_5, q0_6, q0_7, z0_0, z0_1, z0_2, z0_3, z0_4, z0_5, z0_6, z0_7⟩ := HS43_.out.c8 0 rfl
      go_wp2
      go_ret
      exact ⟨by simp [lstB, c6_A.out, Int.not_lt.2 c6_A.out, c7_A.out, Int.not_lt.2 c7_A.out, c8_A.out, Int.not_lt.2 c8_A.out, c9_A.out], HS43_.out.B⟩
end Cn
end Go.Proofs.YtmhndfnmdkeiaaaDoor
