/- A day s code in the document s answer: walked. No condition beyond the tables as they are laid. -/
import Derived.Test.YtmhndfnmdkeiaaaDoorCc
import Derived.Outline
namespace Go.Proofs.YtmhndfnmdkeiaaaDoor
open Go.RowKit Go.Proofs.YtmhndfnmdkeiaaaDoorW.PrintWords Go.Proofs.YtmhndfnmdkeiaaaDoorW.PrintLast Go.Proofs.YtmhndfnmdkeiaaaDoorW.PrintMore
open KitW PEqual
namespace Cn
set_option linter.unusedSimpArgs false
set_option linter.unusedVariables false
attribute [local go_sem] max2_int min2_int max_two min_two max_three min_three max_four min_four

def incl (k op a : Int) (bs : List Int) : List Int := if op = k ∧ a < (bs.length : Int) then bs.set a.toNat (wrap64 (bs.getD a.toNat 0 + 1)) else bs
theorem incl_len (k op a : Int) (bs : List Int) : (incl k op a bs).length = bs.length := by
  unfold incl
  split <;> simp
def usei (k : Int) (l : List S56) (bs : List Int) : List Int := l.foldl (fun bs x => incl k x.f0 x.f1 bs) bs
def stepC (n0 n1 n2 : Nat) (ce s : Int) (last i : Int) (x : S56) : Bool := (vr x.f0 x.f1 x.f2 == 0) && ((x.f0 == 0) == (i == last)) && decide (x.f1 < bnd n0 n1 n2 ce s x.f0)
def codeC (n0 n1 n2 : Nat) (ce s : Int) (l : List S56) : Bool := decide (2 ≤ (l.length : Int)) && (List.range l.length).all fun i => stepC n0 n1 n2 ce s ((l.length : Int) - 1) (i : Int) (l.getD i z56)
theorem usei_len (k : Int) : ∀ (l : List S56) (bs : List Int), (usei k l bs).length = bs.length
  | [], _ => rfl
  | x :: l, bs => (usei_len k l (incl k x.f0 x.f1 bs)).trans (incl_len _ _ _ _)
theorem usei_step {k : Int} {l : List S56} {bs : List Int} {i : Int} {x : S56} (h0 : 0 ≤ i) (h1 : i < (l.length : Int)) (hx : x = l.getD i.toNat z56) : incl k x.f0 x.f1 (usei k (l.take i.toNat) bs) = usei k (l.take (i + 1).toNat) bs := by
  have h2 : i.toNat < l.length := by omega
  rw [show (i + 1).toNat = i.toNat + 1 from by omega, List.take_succ_eq_append_getElem h2]
  unfold usei
  rw [List.foldl_append]
  rw [List.getD_eq_getElem?_getD, List.getElem?_eq_getElem h2, Option.getD_some] at hx
  rw [← hx]
  rfl
theorem codeC_no {m0 m1 m2 : Nat} {ce s i : Int} {l : List S56} {x : S56} (h0 : 0 ≤ i) (h1 : i < (l.length : Int)) (hx : x = l.getD i.toNat z56) (h : stepC m0 m1 m2 ce s ((l.length : Int) - 1) i x = false) : codeC m0 m1 m2 ce s l = false := by
  rw [← Bool.not_eq_true]
  intro ha
  unfold codeC at ha
  rw [Bool.and_eq_true, List.all_eq_true] at ha
  have := ha.2 i.toNat (by rw [List.mem_range]; omega)
  rw [Int.toNat_of_nonneg h0, ← hx, h] at this
  cases this
theorem codeC_yes {m0 m1 m2 : Nat} {ce s : Int} {l : List S56} (h2 : 2 ≤ (l.length : Int)) (H : ∀ j : Nat, j < l.length → stepC m0 m1 m2 ce s ((l.length : Int) - 1) (j : Int) (l.getD j z56) = true) : codeC m0 m1 m2 ce s l = true := by
  unfold codeC
  rw [Bool.and_eq_true, List.all_eq_true]
  exact ⟨decide_eq_true h2, fun j hj => H j (List.mem_range.1 hj)⟩
set_option maxRecDepth 100000 in
set_option maxHeartbeats 4000000 in
theorem code_calls (w0 : World) (R : List Asn) (gu g0 g1 g2 m0 m1 m2 : Nat) (b0 b1 b2 : List Int) (A0 : Option Addr) (c0 : Nat) (A1 : Option Addr) (c1 : Nat) (A2 : Option Addr) (c2 : Nat) (h ce s st : Int) (A7 : Option Addr) (n7 c7 : Nat) (A : Option Addr) (c : Nat) (l : List S56) (w : World) (e0 : b0.length = m0) (e1 : b1.length = m1) (e2 : b2.length = m2) (lr : Lr w0) (hr : k56.C w0 A l.length l)
    (hS : St w0 w (Box gu #[.slice (some ⟨g0, 0, none⟩) m0 m0, .slice (some ⟨g1, 0, none⟩) m1 m1, .slice (some ⟨g2, 0, none⟩) m2 m2] 66 :: Box g2 (iv b2) 3 :: Box g1 (iv b1) 3 :: Box g0 (iv b0) 3 :: R)) :
    Calls Tryd.prog 26 #[.agg #[.slice A0 m0 c0, .slice A1 m1 c1, .slice A2 m2 c2, .int .i64 h, .int .i64 ce, .int .i64 s, .int .i64 st, .slice A7 n7 c7], .slice A l.length c, .pointer (some ⟨gu, 0, none⟩)] w fun e w' => ∃ d0 d1 d2 : List Int, d0.length = m0 ∧ d1.length = m1 ∧ d2.length = m2 ∧ e = .returned (.bool (codeC m0 m1 m2 ce s l)) ∧ (codeC m0 m1 m2 ce s l = true → d0 = usei 3 l b0 ∧ d1 = usei 28 l b1 ∧ d2 = usei 1 l b2) ∧ St w0 w' (Box gu #[.slice (some ⟨g0, 0, none⟩) m0 m0, .slice (some ⟨g1, 0, none⟩) m1 m1, .slice (some ⟨g2, 0, none⟩) m2 m2] 66 :: Box g2 (iv d2) 3 :: Box g1 (iv d1) 3 :: Box g0 (iv d0) 3 :: R) := by
  have HS0 := Aside0.mk hS
  have LR := Aside0.mk lr
  have HR := Aside0.mk hr
  have hm := C_max hr
  clear hS lr hr
  go_enter Tryd.func26, Tryd.ntmps26
  go_upto_region 1 with (fail)
  obtain ⟨W1_, hW3_⟩ : ∃ W, W = (w.alloc (.cells #[.slice A0 m0 c0, .slice A1 m1 c1, .slice A2 m2 c2, .int .i64 h, .int .i64 ce, .int .i64 s, .int .i64 st, .slice A7 n7 c7] 26 (0, 0))) := ⟨_, rfl⟩
  obtain ⟨g4_, hg5_⟩ : ∃ g, g = w.heap.size := ⟨_, rfl⟩
  have HS2_ : Aside0 (KitW.St w0 W1_ (Box g4_ #[.slice A0 m0 c0, .slice A1 m1 c1, .slice A2 m2 c2, .int .i64 h, .int .i64 ce, .int .i64 s, .int .i64 st, .slice A7 n7 c7] 26 :: Box gu #[.slice (some ⟨g0, 0, none⟩) m0 m0, .slice (some ⟨g1, 0, none⟩) m1 m1, .slice (some ⟨g2, 0, none⟩) m2 m2] 66 :: Box g2 (iv b2) 3 :: Box g1 (iv b1) 3 :: Box g0 (iv b0) 3 :: R)) := by rw [hW3_, hg5_]; exact ⟨by simpa [iv_set] using (HS0.out.allocF #[.slice A0 m0 c0, .slice A1 m1 c1, .slice A2 m2 c2, .int .i64 h, .int .i64 ce, .int .i64 s, .int .i64 st, .slice A7 n7 c7] 26)⟩
  rw [← hW3_, ← hg5_]
  clear hW3_ hg5_ HS0
  by_cases c6_ : ((l.length : Nat) : Int) < 2
  ·
   have c6_A := Aside0.mk c6_
   have c6_1 : decide (((l.length : Nat) : Int) < 2) = true := by simpa using c6_
   go_wp2
   go_ret
   have HS7_ : Aside0 (KitW.St w0 W1_ (Box gu #[.slice (some ⟨g0, 0, none⟩) m0 m0, .slice (some ⟨g1, 0, none⟩) m1 m1, .slice (some ⟨g2, 0, none⟩) m2 m2] 66 :: Box g2 (iv b2) 3 :: Box g1 (iv b1) 3 :: Box g0 (iv b0) 3 :: R)) := ⟨HS2_.out.drop 1⟩
   clear HS2_
   have kk : codeC m0 m1 m2 ce s l = false := by unfold codeC; rw [decide_eq_false (by omega)]; rfl
   exact ⟨_, _, _, e0, e1, e2, by rw [kk]; rfl, fun h => (by rw [kk] at h; cases h), HS7_.out⟩
  ·
   have c6_1 : decide (((l.length : Nat) : Int) < 2) = false := by simpa using c6_
   have c6_2 : 2 ≤ ((l.length : Nat) : Int) := by omega
   have c6_A := Aside0.mk c6_2
   clear c6_
   go_wp2
   have HS8_ : Aside0 (KitW.St w0 W1_ (Box gu #[.slice (some ⟨g0, 0, none⟩) m0 m0, .slice (some ⟨g1, 0, none⟩) m1 m1, .slice (some ⟨g2, 0, none⟩) m2 m2] 66 :: Box g2 (iv b2) 3 :: Box g1 (iv b1) 3 :: Box g0 (iv b0) 3 :: Box g4_ #[.slice A0 m0 c0, .slice A1 m1 c1, .slice A2 m2 c2, .int .i64 h, .int .i64 ce, .int .i64 s, .int .i64 st, .slice A7 n7 c7] 26 :: R)) := ⟨St.rot [Box g4_ #[.slice A0 m0 c0, .slice A1 m1 c1, .slice A2 m2 c2, .int .i64 h, .int .i64 ce, .int .i64 s, .int .i64 st, .slice A7 n7 c7] 26] [Box gu #[.slice (some ⟨g0, 0, none⟩) m0 m0, .slice (some ⟨g1, 0, none⟩) m1 m1, .slice (some ⟨g2, 0, none⟩) m2 m2] 66, Box g2 (iv b2) 3, Box g1 (iv b1) 3, Box g0 (iv b0) 3] HS2_.out⟩
   clear HS2_
   go_loopg [7, 8] l.length (fun g v _ W => ∃ (i : Int) (d0 d1 d2 : List Int), v = .int .i64 i ∧ 0 ≤ i ∧ (g : Int) + i = (l.length : Int) ∧ d0.length = m0 ∧ d1.length = m1 ∧ d2.length = m2 ∧ Aside0 (∀ j : Nat, j < i.toNat → stepC m0 m1 m2 ce s ((l.length : Int) - 1) (j : Int) (l.getD j z56) = true) ∧ Aside0 (d0 = usei 3 (l.take i.toNat) b0 ∧ d1 = usei 28 (l.take i.toNat) b1 ∧ d2 = usei 1 (l.take i.toNat) b2) ∧ Aside0 (St w0 W (Box gu #[.slice (some ⟨g0, 0, none⟩) m0 m0, .slice (some ⟨g1, 0, none⟩) m1 m1, .slice (some ⟨g2, 0, none⟩) m2 m2] 66 :: Box g2 (iv d2) 3 :: Box g1 (iv d1) 3 :: Box g0 (iv d0) 3 :: Box g4_ #[.slice A0 m0 c0, .slice A1 m1 c1, .slice A2 m2 c2, .int .i64 h, .int .i64 ce, .int .i64 s, .int .i64 st, .slice A7 n7 c7] 26 :: R)))
   case atStart => exact ⟨0, b0, b1, b2, rfl, by omega, by omega, e0, e1, e2, ⟨fun j hj => by simp at hj⟩, ⟨rfl, rfl, rfl⟩, HS8_⟩
   case round =>
    revert wr gk
    intro gk9_ wr10_ hrel hK_
    obtain ⟨i, d0, d1, d2, rfl, hi, hg, hd0, hd1, hd2, HI, HU, HSr⟩ := hrel
    by_cases c11_ : i < ((l.length : Nat) : Int)
    ·
     have c11_A := Aside0.mk c11_
     have c11_1 : decide (i < ((l.length : Nat) : Int)) = true := by simpa using c11_
     obtain ⟨a12_, rfl⟩ := C_some HR.out (by omega)
     have E14_0 : 0 ≤ i := by omega
     have E14_1 : i < (l.length : Int) := by omega
     obtain ⟨x13_, hx13_⟩ : ∃ x, x = l.getD (i).toNat z56 := ⟨_, rfl⟩
     obtain ⟨E14_c, E14_K, E14_G⟩ := C_at HR.out z56 (i) (by omega) (by omega)
     rw [← hx13_] at E14_K
     obtain rfl := k56_open E14_K
     have E14_F0 : Aside0 (w0.cell? (a12_.add ((i).toNat * 3)) = some (.int .i64 x13_.f0)) := ⟨by exact E14_G 0 _ rfl⟩
     have E14_F1 : Aside0 (w0.cell? ⟨(a12_.add ((i).toNat * 3)).block, (a12_.add ((i).toNat * 3)).off + 1, none⟩ = some (.int .i64 x13_.f1)) := ⟨by rw [← add_field _ _ 1 (by omega)]; exact E14_G 1 _ rfl⟩
     have E14_F2 : Aside0 (w0.cell? ⟨(a12_.add ((i).toNat * 3)).block, (a12_.add ((i).toNat * 3)).off + 2, none⟩ = some (.int .i64 x13_.f2)) := ⟨by rw [← add_field _ _ 2 (by omega)]; exact E14_G 2 _ rfl⟩
     have Hx13_ := Aside0.mk hx13_
     clear hx13_ E14_K E14_G
     have qe0 : wr10_.cell? (a12_.add ((i).toNat * 3)) = some (.int .i64 x13_.f0) := pw_cell_below HSr.out.B E14_F0.out
     have qe1 : wr10_.cell? ⟨(a12_.add ((i).toNat * 3)).block, (a12_.add ((i).toNat * 3)).off + 1, none⟩ = some (.int .i64 x13_.f1) := pw_cell_below HSr.out.B E14_F1.out
     have qe2 : wr10_.cell? ⟨(a12_.add ((i).toNat * 3)).block, (a12_.add ((i).toNat * 3)).off + 2, none⟩ = some (.int .i64 x13_.f2) := pw_cell_below HSr.out.B E14_F2.out
     go_upto_region 7 with (fail)
     clear qe0 qe1 qe2
     obtain ⟨W15_, hW17_⟩ : ∃ W, W = (wr10_.alloc (.cells #[.int .i64 x13_.f0, .int .i64 x13_.f1, .int .i64 x13_.f2] 56 (0, 0))) := ⟨_, rfl⟩
     obtain ⟨g18_, hg19_⟩ : ∃ g, g = wr10_.heap.size := ⟨_, rfl⟩
     have HS16_ : Aside0 (KitW.St w0 W15_ (Box g18_ #[.int .i64 x13_.f0, .int .i64 x13_.f1, .int .i64 x13_.f2] 56 :: Box gu #[.slice (some ⟨g0, 0, none⟩) m0 m0, .slice (some ⟨g1, 0, none⟩) m1 m1, .slice (some ⟨g2, 0, none⟩) m2 m2] 66 :: Box g2 (iv d2) 3 :: Box g1 (iv d1) 3 :: Box g0 (iv d0) 3 :: Box g4_ #[.slice A0 m0 c0, .slice A1 m1 c1, .slice A2 m2 c2, .int .i64 h, .int .i64 ce, .int .i64 s, .int .i64 st, .slice A7 n7 c7] 26 :: R)) := by rw [hW17_, hg19_]; exact ⟨by simpa [iv_set] using (HSr.out.allocF #[.int .i64 x13_.f0, .int .i64 x13_.f1, .int .i64 x13_.f2] 56)⟩
     rw [← hW17_, ← hg19_]
     clear hW17_ hg19_ HSr
     by_cases c20_ : (vr x13_.f0 x13_.f1 x13_.f2) = 0
     ·
      have c20_A := Aside0.mk c20_
      have c20_1 : ((vr x13_.f0 x13_.f1 x13_.f2) == 0) = true := by simpa using c20_
      have c20_2 : ((vr x13_.f0 x13_.f1 x13_.f2) != 0) = false := by simpa using c20_
      clear c20_
      by_cases c21_ : ((x13_.f0 == 0) == (i == ((l.length : Nat) : Int) - 1)) = true
      ·
       have c21_A := Aside0.mk c21_
       have c21_1 := c21_A.out
       clear c21_
       obtain ⟨q0_0, q0_1, q0_2, z0_0, z0_1, z0_2⟩ := HS16_.out.c3 0 rfl
       have qe0 : W15_.cell? (a12_.add ((i).toNat * 3)) = some (.int .i64 x13_.f0) := pw_cell_below HS16_.out.B E14_F0.out
       have qe1 : W15_.cell? ⟨(a12_.add ((i).toNat * 3)).block, (a12_.add ((i).toNat * 3)).off + 1, none⟩ = some (.int .i64 x13_.f1) := pw_cell_below HS16_.out.B E14_F1.out
       have qe2 : W15_.cell? ⟨(a12_.add ((i).toNat * 3)).block, (a12_.add ((i).toNat * 3)).off + 2, none⟩ = some (.int .i64 x13_.f2) := pw_cell_below HS16_.out.B E14_F2.out
       go_wp2_with (go_at_call 57; refine stop ?_)
       refine Stop.mk ?_
       refine (validR_calls x13_.f0 x13_.f1 x13_.f2 _ (LR.out.below HS16_.out.B)).mono ?_
       rintro e W22_ ⟨rfl, k24_⟩
       clear q0_0 q0_1 q0_2 z0_0 z0_1 z0_2 qe0 qe1 qe2
       have HS23_ := Aside0.mk (HS16_.out.below k24_)
       clear k24_ HS16_
       by_cases c25_ : (bnd m0 m1 m2 ce s x13_.f0) ≤ x13_.f1
       ·
        have c25_A := Aside0.mk c25_
        have c25_1 : decide ((bnd m0 m1 m2 ce s x13_.f0) ≤ x13_.f1) = true := by simpa using c25_
        have HS26_ := Aside0.mk HS23_.out.drew
        obtain ⟨q0_0, q0_1, q0_2, z0_0, z0_1, z0_2⟩ := HS23_.out.c3 0 rfl
        obtain ⟨q5_0, q5_1, q5_2, q5_3, q5_4, q5_5, q5_6, q5_7, z5_0, z5_1, z5_2, z5_3, z5_4, z5_5, z5_6, z5_7⟩ := HS23_.out.c8 5 rfl
        have qe0 : W22_.cell? (a12_.add ((i).toNat * 3)) = some (.int .i64 x13_.f0) := pw_cell_below HS23_.out.B E14_F0.out
        have qe1 : W22_.cell? ⟨(a12_.add ((i).toNat * 3)).block, (a12_.add ((i).toNat * 3)).off + 1, none⟩ = some (.int .i64 x13_.f1) := pw_cell_below HS23_.out.B E14_F1.out
        have qe2 : W22_.cell? ⟨(a12_.add ((i).toNat * 3)).block, (a12_.add ((i).toNat * 3)).off + 2, none⟩ = some (.int .i64 x13_.f2) := pw_cell_below HS23_.out.B E14_F2.out
        go_wp2
        refine start_ (n := 7) (S := fun w' => w'.cell? ⟨g18_, 1, none⟩ = some (.int .i64 x13_.f1) ∧ w'.cell? ⟨g4_, 0, none⟩ = some (.slice A0 m0 c0) ∧ w'.cell? ⟨g4_, 1, none⟩ = some (.slice A1 m1 c1) ∧ w'.cell? ⟨g4_, 2, none⟩ = some (.slice A2 m2 c2) ∧ w'.cell? ⟨g4_, 3, none⟩ = some (.int .i64 h) ∧ w'.cell? ⟨g4_, 4, none⟩ = some (.int .i64 ce) ∧ w'.cell? ⟨g4_, 5, none⟩ = some (.int .i64 s) ∧ w'.cell? ⟨g4_, 6, none⟩ = some (.int .i64 st) ∧ w'.cell? ⟨g4_, 7, none⟩ = some (.slice A7 n7 c7) ∧ w'.cell? ⟨g18_, 0, none⟩ = some (.int .i64 x13_.f0)) (ds := []) #[false, false, false, false, false, false, false] (by kernel_rfl) rfl rfl ⟨(HS26_.out.cell 0 rfl 1), (HS26_.out.cell 5 rfl 0), (HS26_.out.cell 5 rfl 1), (HS26_.out.cell 5 rfl 2), (HS26_.out.cell 5 rfl 3), (HS26_.out.cell 5 rfl 4), (HS26_.out.cell 5 rfl 5), (HS26_.out.cell 5 rfl 6), (HS26_.out.cell 5 rfl 7), (HS26_.out.cell 0 rfl 0)⟩ (fun hHeld => ?_)
        refine pz 0 (some 36) (v := ?_) (a' := ?_) rfl rfl (by kernel_rfl) (fun _ _ _ h => h) (Or.inl ⟨by rfl, ?_⟩) ?_ ?_
        rotate_left
        · intro w'
          go_simp
          with_reducible rfl
        rotate_left
        · simp only [Act.put, List.setIfInBounds_toArray, List.set_cons_zero, List.set_cons_succ, i64_w, i32_w]
          rfl
        refine pz 3 (some 39) (v := ?_) (a' := ?_) rfl rfl (by kernel_rfl) (fun _ _ _ h => h) (Or.inl ⟨by rfl, ?_⟩) ?_ ?_
        rotate_left
        · intro w'
          go_simp
          with_reducible rfl
        rotate_left
        · simp only [Act.put, List.setIfInBounds_toArray, List.set_cons_zero, List.set_cons_succ, i64_w, i32_w]
          rfl
        refine tz 1 (some 37) (v := ?_) (a' := ?_) rfl rfl (by kernel_rfl) (fun _ _ _ h => h) (Or.inl ⟨by rfl, ?_⟩) hHeld ?_ ?_
        rotate_left
        · rintro w' ⟨s0, s1, s2, s3, s4, s5, s6, s7, s8, s9⟩
          go_simp
          with_reducible rfl
        rotate_left
        · simp only [Act.put, List.setIfInBounds_toArray, List.set_cons_zero, List.set_cons_succ, i64_w, i32_w]
          rfl
        refine tz 2 (some 38) (v := ?_) (a' := ?_) rfl rfl (by kernel_rfl) (fun _ _ _ h => h) (Or.inl ⟨by rfl, ?_⟩) hHeld ?_ ?_
        rotate_left
        · rintro w' ⟨s0, s1, s2, s3, s4, s5, s6, s7, s8, s9⟩
          go_simp
          with_reducible rfl
        rotate_left
        · simp only [Act.put, List.setIfInBounds_toArray, List.set_cons_zero, List.set_cons_succ, i64_w, i32_w]
          rfl
        refine tz 4 (some 40) (v := ?_) (a' := ?_) rfl rfl (by kernel_rfl) (fun _ _ _ h => h) (Or.inl ⟨by rfl, ?_⟩) hHeld ?_ ?_
        rotate_left
        · rintro w' ⟨s0, s1, s2, s3, s4, s5, s6, s7, s8, s9⟩
          go_simp
          with_reducible rfl
        rotate_left
        · simp only [Act.put, List.setIfInBounds_toArray, List.set_cons_zero, List.set_cons_succ, i64_w, i32_w]
          rfl
        refine one_ (i := 5) (N := some 41) #[true, true, true, true, true, true, false] rfl rfl (by kernel_rfl) (by decide) (fun K hK => ?_)
        refine goes_ Tryd.func58 (by kernel_rfl) rfl #[.agg #[.slice A0 m0 c0, .slice A1 m1 c1, .slice A2 m2 c2, .int .i64 h, .int .i64 ce, .int .i64 s, .int .i64 st, .slice A7 n7 c7], .int .i64 x13_.f0] (by rfl) rfl rfl (by simp only [List.map_toArray, List.map_cons, List.map_nil]; rfl) ?_
        with_reducible refine (bound_calls A0 m0 c0 A1 m1 c1 A2 m2 c2 h ce s st A7 n7 c7 x13_.f0 _).mono ?_
        rintro e W27_ ⟨rfl, k29_⟩
        refine ⟨_, rfl, ?_⟩
        have HS28_ := Aside0.mk (HS26_.out.below k29_)
        clear k29_
        refine hK.out _ _ ⟨(HS28_.out.cell 0 rfl 1), (HS28_.out.cell 5 rfl 0), (HS28_.out.cell 5 rfl 1), (HS28_.out.cell 5 rfl 2), (HS28_.out.cell 5 rfl 3), (HS28_.out.cell 5 rfl 4), (HS28_.out.cell 5 rfl 5), (HS28_.out.cell 5 rfl 6), (HS28_.out.cell 5 rfl 7), (HS28_.out.cell 0 rfl 0)⟩ (fun hHeld => ?_)
        clear hK K
        refine norm_ (a' := ?_) ?_ ?_
        rotate_left
        · show Act.put _ (some 41) _ = _
          simp only [Act.put, List.setIfInBounds_toArray, List.set_cons_zero, List.set_cons_succ, i64_w, i32_w]
          rfl
        refine pz 6 (some 42) (v := ?_) (a' := ?_) rfl rfl (by kernel_rfl) (fun _ _ _ h => h) (Or.inl ⟨by rfl, ?_⟩) ?_ ?_
        rotate_left
        · intro w'
          go_simp
          with_reducible rfl
        rotate_left
        · simp only [Act.put, List.setIfInBounds_toArray, List.set_cons_zero, List.set_cons_succ, i64_w, i32_w]
          rfl
        refine done_ (by kernel_rfl) ?_
        clear q0_0 q0_1 q0_2 z0_0 z0_1 z0_2 q5_0 q5_1 q5_2 q5_3 q5_4 q5_5 q5_6 q5_7 z5_0 z5_1 z5_2 z5_3 z5_4 z5_5 z5_6 z5_7 qe0 qe1 qe2
        obtain ⟨q0_0, q0_1, q0_2, z0_0, z0_1, z0_2⟩ := HS28_.out.c3 0 rfl
        obtain ⟨q5_0, q5_1, q5_2, q5_3, q5_4, q5_5, q5_6, q5_7, z5_0, z5_1, z5_2, z5_3, z5_4, z5_5, z5_6, z5_7⟩ := HS28_.out.c8 5 rfl
        have qe0 : W27_.cell? (a12_.add ((i).toNat * 3)) = some (.int .i64 x13_.f0) := pw_cell_below HS28_.out.B E14_F0.out
        have qe1 : W27_.cell? ⟨(a12_.add ((i).toNat * 3)).block, (a12_.add ((i).toNat * 3)).off + 1, none⟩ = some (.int .i64 x13_.f1) := pw_cell_below HS28_.out.B E14_F1.out
        have qe2 : W27_.cell? ⟨(a12_.add ((i).toNat * 3)).block, (a12_.add ((i).toNat * 3)).off + 2, none⟩ = some (.int .i64 x13_.f2) := pw_cell_below HS28_.out.B E14_F2.out
        go_wp2
        go_ret
        clear q0_0 q0_1 q0_2 z0_0 z0_1 z0_2 q5_0 q5_1 q5_2 q5_3 q5_4 q5_5 q5_6 q5_7 z5_0 z5_1 z5_2 z5_3 z5_4 z5_5 z5_6 z5_7 qe0 qe1 qe2
        have HS30_ : Aside0 (KitW.St w0 W27_ (Box gu #[.slice (some ⟨g0, 0, none⟩) m0 m0, .slice (some ⟨g1, 0, none⟩) m1 m1, .slice (some ⟨g2, 0, none⟩) m2 m2] 66 :: Box g2 (iv d2) 3 :: Box g1 (iv d1) 3 :: Box g0 (iv d0) 3 :: Box g4_ #[.slice A0 m0 c0, .slice A1 m1 c1, .slice A2 m2 c2, .int .i64 h, .int .i64 ce, .int .i64 s, .int .i64 st, .slice A7 n7 c7] 26 :: R)) := ⟨HS28_.out.drop 1⟩
        clear HS28_
        have HS31_ : Aside0 (KitW.St w0 W27_ (Box g4_ #[.slice A0 m0 c0, .slice A1 m1 c1, .slice A2 m2 c2, .int .i64 h, .int .i64 ce, .int .i64 s, .int .i64 st, .slice A7 n7 c7] 26 :: Box gu #[.slice (some ⟨g0, 0, none⟩) m0 m0, .slice (some ⟨g1, 0, none⟩) m1 m1, .slice (some ⟨g2, 0, none⟩) m2 m2] 66 :: Box g2 (iv d2) 3 :: Box g1 (iv d1) 3 :: Box g0 (iv d0) 3 :: R)) := ⟨St.rot [Box gu #[.slice (some ⟨g0, 0, none⟩) m0 m0, .slice (some ⟨g1, 0, none⟩) m1 m1, .slice (some ⟨g2, 0, none⟩) m2 m2] 66, Box g2 (iv d2) 3, Box g1 (iv d1) 3, Box g0 (iv d0) 3] [Box g4_ #[.slice A0 m0 c0, .slice A1 m1 c1, .slice A2 m2 c2, .int .i64 h, .int .i64 ce, .int .i64 s, .int .i64 st, .slice A7 n7 c7] 26] HS30_.out⟩
        clear HS30_
        have HS32_ : Aside0 (KitW.St w0 W27_ (Box gu #[.slice (some ⟨g0, 0, none⟩) m0 m0, .slice (some ⟨g1, 0, none⟩) m1 m1, .slice (some ⟨g2, 0, none⟩) m2 m2] 66 :: Box g2 (iv d2) 3 :: Box g1 (iv d1) 3 :: Box g0 (iv d0) 3 :: R)) := ⟨HS31_.out.drop 1⟩
        clear HS31_
        have kk := codeC_no (m0 := m0) (m1 := m1) (m2 := m2) (ce := ce) (s := s) hi (by omega) Hx13_.out (by unfold stepC; rw [show ((vr x13_.f0 x13_.f1 x13_.f2) == 0) = true from by rw [c20_A.out]; rfl, show ((x13_.f0 == 0) == (i == ((l.length : Nat) : Int) - 1)) = true from c21_A.out, show decide (x13_.f1 < (bnd m0 m1 m2 ce s x13_.f0)) = false from by have := c25_A.out; simp; omega]; first | done | rfl | simp)
        exact ⟨_, _, _, by simp [incl_len, hd0], by simp [incl_len, hd1], by simp [incl_len, hd2], by rw [kk]; rfl, fun h => (by rw [kk] at h; cases h), HS32_.out⟩
       ·
        have c25_1 : decide ((bnd m0 m1 m2 ce s x13_.f0) ≤ x13_.f1) = false := by simpa using c25_
        have c25_2 : x13_.f1 < (bnd m0 m1 m2 ce s x13_.f0) := by omega
        have c25_A := Aside0.mk c25_2
        clear c25_
        have HS33_ := Aside0.mk HS23_.out.drew
        obtain ⟨q0_0, q0_1, q0_2, z0_0, z0_1, z0_2⟩ := HS23_.out.c3 0 rfl
        obtain ⟨q5_0, q5_1, q5_2, q5_3, q5_4, q5_5, q5_6, q5_7, z5_0, z5_1, z5_2, z5_3, z5_4, z5_5, z5_6, z5_7⟩ := HS23_.out.c8 5 rfl
        have qe0 : W22_.cell? (a12_.add ((i).toNat * 3)) = some (.int .i64 x13_.f0) := pw_cell_below HS23_.out.B E14_F0.out
        have qe1 : W22_.cell? ⟨(a12_.add ((i).toNat * 3)).block, (a12_.add ((i).toNat * 3)).off + 1, none⟩ = some (.int .i64 x13_.f1) := pw_cell_below HS23_.out.B E14_F1.out
        have qe2 : W22_.cell? ⟨(a12_.add ((i).toNat * 3)).block, (a12_.add ((i).toNat * 3)).off + 2, none⟩ = some (.int .i64 x13_.f2) := pw_cell_below HS23_.out.B E14_F2.out
        go_wp2
        refine start_ (n := 7) (S := fun w' => w'.cell? ⟨g18_, 1, none⟩ = some (.int .i64 x13_.f1) ∧ w'.cell? ⟨g4_, 0, none⟩ = some (.slice A0 m0 c0) ∧ w'.cell? ⟨g4_, 1, none⟩ = some (.slice A1 m1 c1) ∧ w'.cell? ⟨g4_, 2, none⟩ = some (.slice A2 m2 c2) ∧ w'.cell? ⟨g4_, 3, none⟩ = some (.int .i64 h) ∧ w'.cell? ⟨g4_, 4, none⟩ = some (.int .i64 ce) ∧ w'.cell? ⟨g4_, 5, none⟩ = some (.int .i64 s) ∧ w'.cell? ⟨g4_, 6, none⟩ = some (.int .i64 st) ∧ w'.cell? ⟨g4_, 7, none⟩ = some (.slice A7 n7 c7) ∧ w'.cell? ⟨g18_, 0, none⟩ = some (.int .i64 x13_.f0)) (ds := []) #[false, false, false, false, false, false, false] (by kernel_rfl) rfl rfl ⟨(HS33_.out.cell 0 rfl 1), (HS33_.out.cell 5 rfl 0), (HS33_.out.cell 5 rfl 1), (HS33_.out.cell 5 rfl 2), (HS33_.out.cell 5 rfl 3), (HS33_.out.cell 5 rfl 4), (HS33_.out.cell 5 rfl 5), (HS33_.out.cell 5 rfl 6), (HS33_.out.cell 5 rfl 7), (HS33_.out.cell 0 rfl 0)⟩ (fun hHeld => ?_)
        refine pz 0 (some 36) (v := ?_) (a' := ?_) rfl rfl (by kernel_rfl) (fun _ _ _ h => h) (Or.inl ⟨by rfl, ?_⟩) ?_ ?_
        rotate_left
        · intro w'
          go_simp
          with_reducible rfl
        rotate_left
        · simp only [Act.put, List.setIfInBounds_toArray, List.set_cons_zero, List.set_cons_succ, i64_w, i32_w]
          rfl
        refine pz 3 (some 39) (v := ?_) (a' := ?_) rfl rfl (by kernel_rfl) (fun _ _ _ h => h) (Or.inl ⟨by rfl, ?_⟩) ?_ ?_
        rotate_left
        · intro w'
          go_simp
          with_reducible rfl
        rotate_left
        · simp only [Act.put, List.setIfInBounds_toArray, List.set_cons_zero, List.set_cons_succ, i64_w, i32_w]
          rfl
        refine tz 1 (some 37) (v := ?_) (a' := ?_) rfl rfl (by kernel_rfl) (fun _ _ _ h => h) (Or.inl ⟨by rfl, ?_⟩) hHeld ?_ ?_
        rotate_left
        · rintro w' ⟨s0, s1, s2, s3, s4, s5, s6, s7, s8, s9⟩
          go_simp
          with_reducible rfl
        rotate_left
        · simp only [Act.put, List.setIfInBounds_toArray, List.set_cons_zero, List.set_cons_succ, i64_w, i32_w]
          rfl
        refine tz 2 (some 38) (v := ?_) (a' := ?_) rfl rfl (by kernel_rfl) (fun _ _ _ h => h) (Or.inl ⟨by rfl, ?_⟩) hHeld ?_ ?_
        rotate_left
        · rintro w' ⟨s0, s1, s2, s3, s4, s5, s6, s7, s8, s9⟩
          go_simp
          with_reducible rfl
        rotate_left
        · simp only [Act.put, List.setIfInBounds_toArray, List.set_cons_zero, List.set_cons_succ, i64_w, i32_w]
          rfl
        refine tz 4 (some 40) (v := ?_) (a' := ?_) rfl rfl (by kernel_rfl) (fun _ _ _ h => h) (Or.inl ⟨by rfl, ?_⟩) hHeld ?_ ?_
        rotate_left
        · rintro w' ⟨s0, s1, s2, s3, s4, s5, s6, s7, s8, s9⟩
          go_simp
          with_reducible rfl
        rotate_left
        · simp only [Act.put, List.setIfInBounds_toArray, List.set_cons_zero, List.set_cons_succ, i64_w, i32_w]
          rfl
        refine one_ (i := 5) (N := some 41) #[true, true, true, true, true, true, false] rfl rfl (by kernel_rfl) (by decide) (fun K hK => ?_)
        refine goes_ Tryd.func58 (by kernel_rfl) rfl #[.agg #[.slice A0 m0 c0, .slice A1 m1 c1, .slice A2 m2 c2, .int .i64 h, .int .i64 ce, .int .i64 s, .int .i64 st, .slice A7 n7 c7], .int .i64 x13_.f0] (by rfl) rfl rfl (by simp only [List.map_toArray, List.map_cons, List.map_nil]; rfl) ?_
        with_reducible refine (bound_calls A0 m0 c0 A1 m1 c1 A2 m2 c2 h ce s st A7 n7 c7 x13_.f0 _).mono ?_
        rintro e W34_ ⟨rfl, k36_⟩
        refine ⟨_, rfl, ?_⟩
        have HS35_ := Aside0.mk (HS33_.out.below k36_)
        clear k36_
        refine hK.out _ _ ⟨(HS35_.out.cell 0 rfl 1), (HS35_.out.cell 5 rfl 0), (HS35_.out.cell 5 rfl 1), (HS35_.out.cell 5 rfl 2), (HS35_.out.cell 5 rfl 3), (HS35_.out.cell 5 rfl 4), (HS35_.out.cell 5 rfl 5), (HS35_.out.cell 5 rfl 6), (HS35_.out.cell 5 rfl 7), (HS35_.out.cell 0 rfl 0)⟩ (fun hHeld => ?_)
        clear hK K
        refine norm_ (a' := ?_) ?_ ?_
        rotate_left
        · show Act.put _ (some 41) _ = _
          simp only [Act.put, List.setIfInBounds_toArray, List.set_cons_zero, List.set_cons_succ, i64_w, i32_w]
          rfl
        refine pz 6 (some 42) (v := ?_) (a' := ?_) rfl rfl (by kernel_rfl) (fun _ _ _ h => h) (Or.inl ⟨by rfl, ?_⟩) ?_ ?_
        rotate_left
        · intro w'
          go_simp
          with_reducible rfl
        rotate_left
        · simp only [Act.put, List.setIfInBounds_toArray, List.set_cons_zero, List.set_cons_succ, i64_w, i32_w]
          rfl
        refine done_ (by kernel_rfl) ?_
        clear q0_0 q0_1 q0_2 z0_0 z0_1 z0_2 q5_0 q5_1 q5_2 q5_3 q5_4 q5_5 q5_6 q5_7 z5_0 z5_1 z5_2 z5_3 z5_4 z5_5 z5_6 z5_7 qe0 qe1 qe2
        by_cases c37_ : x13_.f0 = 1
        ·
         have c37_A := Aside0.mk c37_
         have c37_1 : (x13_.f0 == 1) = true := by simpa using c37_
         have c37_2 : (x13_.f0 != 1) = false := by simpa using c37_
         clear c37_
         have hh130 : 0 ≤ x13_.f1 := vr_le c20_A.out
         have hh13 : x13_.f1 < (m2 : Int) := by have h1 := c25_A.out; have h2 := c37_A.out; rw [h2] at h1; simp [bnd] at h1; omega
         obtain ⟨x38_, hx38_⟩ : ∃ x, x = d2.getD (x13_.f1).toNat 0 := ⟨_, rfl⟩
         have H39_ := Aside0.mk hx38_
         clear hx38_
         obtain ⟨p40_, h41_⟩ : ∃ p : Int, wrap64 (x38_ + 1) = p := ⟨_, rfl⟩
         have h41_W := Aside0.mk h41_
         have HS42_ := Aside0.mk HS35_.out.drew
         obtain ⟨q0_0, q0_1, q0_2, z0_0, z0_1, z0_2⟩ := HS35_.out.c3 0 rfl
         obtain ⟨q1_0, q1_1, q1_2, z1_0, z1_1, z1_2⟩ := HS35_.out.c3 1 rfl
         obtain ⟨q5_0, q5_1, q5_2, q5_3, q5_4, q5_5, q5_6, q5_7, z5_0, z5_1, z5_2, z5_3, z5_4, z5_5, z5_6, z5_7⟩ := HS35_.out.c8 5 rfl
         have qe0 : W34_.cell? (a12_.add ((i).toNat * 3)) = some (.int .i64 x13_.f0) := pw_cell_below HS35_.out.B E14_F0.out
         have qe1 : W34_.cell? ⟨(a12_.add ((i).toNat * 3)).block, (a12_.add ((i).toNat * 3)).off + 1, none⟩ = some (.int .i64 x13_.f1) := pw_cell_below HS35_.out.B E14_F1.out
         have qe2 : W34_.cell? ⟨(a12_.add ((i).toNat * 3)).block, (a12_.add ((i).toNat * 3)).off + 2, none⟩ = some (.int .i64 x13_.f2) := pw_cell_below HS35_.out.B E14_F2.out
         go_wp2
         refine start_ (n := 11) (S := fun w' => w'.cell? ⟨gu, 2, none⟩ = some (.slice (some ⟨g2, 0, none⟩) m2 m2) ∧ w'.cell? ⟨g18_, 1, none⟩ = some (.int .i64 x13_.f1) ∧ w'.cell? ⟨g2, x13_.f1.toNat, none⟩ = some (.int .i64 x38_) ∧ w'.frozen? ⟨g2, x13_.f1.toNat, none⟩ = false) (ds := [10]) #[false, false, false, false, false, false, false, false, false, false, false] (by kernel_rfl) rfl rfl ⟨(HS42_.out.cell 1 rfl 2), (HS42_.out.cell 0 rfl 1), (((HS42_.out.cell 2 rfl x13_.f1.toNat).trans (iv_get (by omega))).trans (by rw [H39_.out])), (HS42_.out.frozen 2 rfl x13_.f1.toNat)⟩ (fun hHeld => ?_)
         refine pz 0 (some 47) (v := ?_) (a' := ?_) rfl rfl (by kernel_rfl) (fun _ _ _ h => h) (Or.inl ⟨by rfl, ?_⟩) ?_ ?_
         rotate_left
         · intro w'
           go_simp
           with_reducible rfl
         rotate_left
         · simp only [Act.put, List.setIfInBounds_toArray, List.set_cons_zero, List.set_cons_succ, i64_w, i32_w]
           rfl
         refine pz 1 (some 48) (v := ?_) (a' := ?_) rfl rfl (by kernel_rfl) (fun _ _ _ h => h) (Or.inl ⟨by rfl, ?_⟩) ?_ ?_
         rotate_left
         · intro w'
           go_simp
           with_reducible rfl
         rotate_left
         · simp only [Act.put, List.setIfInBounds_toArray, List.set_cons_zero, List.set_cons_succ, i64_w, i32_w]
           rfl
         refine pz 2 (some 49) (v := ?_) (a' := ?_) rfl rfl (by kernel_rfl) (fun _ _ _ h => h) (Or.inl ⟨by rfl, ?_⟩) ?_ ?_
         rotate_left
         · intro w'
           go_simp
           with_reducible rfl
         rotate_left
         · simp only [Act.put, List.setIfInBounds_toArray, List.set_cons_zero, List.set_cons_succ, i64_w, i32_w]
           rfl
         refine pz 4 (some 51) (v := ?_) (a' := ?_) rfl rfl (by kernel_rfl) (fun _ _ _ h => h) (Or.inl ⟨by rfl, ?_⟩) ?_ ?_
         rotate_left
         · intro w'
           go_simp
           with_reducible rfl
         rotate_left
         · simp only [Act.put, List.setIfInBounds_toArray, List.set_cons_zero, List.set_cons_succ, i64_w, i32_w]
           rfl
         refine tz 3 (some 50) (v := ?_) (a' := ?_) rfl rfl (by kernel_rfl) (fun _ _ _ h => h) (Or.inl ⟨by rfl, ?_⟩) hHeld ?_ ?_
         rotate_left
         · rintro w' ⟨s0, s1, s2, s3⟩
           go_simp
           with_reducible rfl
         rotate_left
         · simp only [Act.put, List.setIfInBounds_toArray, List.set_cons_zero, List.set_cons_succ, i64_w, i32_w]
           rfl
         refine tz 5 (some 52) (v := ?_) (a' := ?_) rfl rfl (by kernel_rfl) (fun _ _ _ h => h) (Or.inl ⟨by rfl, ?_⟩) hHeld ?_ ?_
         rotate_left
         · rintro w' ⟨s0, s1, s2, s3⟩
           go_simp
           with_reducible rfl
         rotate_left
         · simp only [Act.put, List.setIfInBounds_toArray, List.set_cons_zero, List.set_cons_succ, i64_w, i32_w]
           rfl
         refine pz 6 (some 53) (v := ?_) (a' := ?_) rfl rfl (by kernel_rfl) (fun _ _ _ h => h) (Or.inl ⟨by rfl, ?_⟩) ?_ ?_
         rotate_left
         · intro w'
           go_simp
           with_reducible rfl
         rotate_left
         · simp only [Act.put, List.setIfInBounds_toArray, List.set_cons_zero, List.set_cons_succ, i64_w, i32_w]
           rfl
         refine tz 7 (some 54) (v := ?_) (a' := ?_) rfl rfl (by kernel_rfl) (fun _ _ _ h => h) (Or.inl ⟨by rfl, ?_⟩) hHeld ?_ ?_
         rotate_left
         · rintro w' ⟨s0, s1, s2, s3⟩
           go_simp
           with_reducible rfl
         rotate_left
         · simp only [Act.put, List.setIfInBounds_toArray, List.set_cons_zero, List.set_cons_succ, i64_w, i32_w]
           rfl
         refine pz 8 (some 55) (v := ?_) (a' := ?_) rfl rfl (by kernel_rfl) (fun _ _ _ h => h) (Or.inl ⟨by rfl, ?_⟩) ?_ ?_
         rotate_left
         · intro w'
           go_simp
           with_reducible rfl
         rotate_left
         · simp only [Act.put, List.setIfInBounds_toArray, List.set_cons_zero, List.set_cons_succ, i64_w, i32_w]
           rfl
         refine pz 9 (some 56) (v := ?_) (a' := ?_) rfl rfl (by kernel_rfl) (fun _ _ _ h => h) (Or.inl ⟨by rfl, ?_⟩) ?_ ?_
         rotate_left
         · intro w'
           go_simp
           with_reducible rfl
         rotate_left
         · simp only [Act.put, List.setIfInBounds_toArray, List.set_cons_zero, List.set_cons_succ, i64_w, i32_w]
           rfl
         refine last_ (i := 10) (N := none) #[true, true, true, true, true, true, true, true, true, true, true] rfl rfl (by kernel_rfl) (by decide) (fun K hK => ?_)
         refine skip_ (w1 := ?_) (by rfl) rfl ?_ ?_
         rotate_left
         · go_simp
           rfl
         refine hK.out _ _ ?_
         clear hK K
         refine done_ (by kernel_rfl) ?_
         clear q0_0 q0_1 q0_2 z0_0 z0_1 z0_2 q1_0 q1_1 q1_2 z1_0 z1_1 z1_2 q5_0 q5_1 q5_2 q5_3 q5_4 q5_5 q5_6 q5_7 z5_0 z5_1 z5_2 z5_3 z5_4 z5_5 z5_6 z5_7 qe0 qe1 qe2
         obtain ⟨W43_, hW45_⟩ : ∃ W, W = (W34_.setCell ⟨g2, x13_.f1.toNat, none⟩ (.int .i64 p40_)).drew := ⟨_, rfl⟩
         have HS44_ : Aside0 (KitW.St w0 W43_ (Box g18_ #[.int .i64 x13_.f0, .int .i64 x13_.f1, .int .i64 x13_.f2] 56 :: Box gu #[.slice (some ⟨g0, 0, none⟩) m0 m0, .slice (some ⟨g1, 0, none⟩) m1 m1, .slice (some ⟨g2, 0, none⟩) m2 m2] 66 :: Box g2 (iv (d2.set x13_.f1.toNat p40_)) 3 :: Box g1 (iv d1) 3 :: Box g0 (iv d0) 3 :: Box g4_ #[.slice A0 m0 c0, .slice A1 m1 c1, .slice A2 m2 c2, .int .i64 h, .int .i64 ce, .int .i64 s, .int .i64 st, .slice A7 n7 c7] 26 :: R)) := by rw [hW45_]; exact ⟨by simpa [iv_set] using (HS35_.out.set 2 rfl x13_.f1.toNat (.int .i64 p40_)).drew⟩
         rw [← hW45_]
         clear hW45_ HS35_
         have qe0 : W43_.cell? (a12_.add ((i).toNat * 3)) = some (.int .i64 x13_.f0) := pw_cell_below HS44_.out.B E14_F0.out
         have qe1 : W43_.cell? ⟨(a12_.add ((i).toNat * 3)).block, (a12_.add ((i).toNat * 3)).off + 1, none⟩ = some (.int .i64 x13_.f1) := pw_cell_below HS44_.out.B E14_F1.out
         have qe2 : W43_.cell? ⟨(a12_.add ((i).toNat * 3)).block, (a12_.add ((i).toNat * 3)).off + 2, none⟩ = some (.int .i64 x13_.f2) := pw_cell_below HS44_.out.B E14_F2.out
         go_wp2
         clear qe0 qe1 qe2
         have HS46_ : Aside0 (KitW.St w0 W43_ (Box gu #[.slice (some ⟨g0, 0, none⟩) m0 m0, .slice (some ⟨g1, 0, none⟩) m1 m1, .slice (some ⟨g2, 0, none⟩) m2 m2] 66 :: Box g2 (iv (d2.set x13_.f1.toNat p40_)) 3 :: Box g1 (iv d1) 3 :: Box g0 (iv d0) 3 :: Box g4_ #[.slice A0 m0 c0, .slice A1 m1 c1, .slice A2 m2 c2, .int .i64 h, .int .i64 ce, .int .i64 s, .int .i64 st, .slice A7 n7 c7] 26 :: R)) := ⟨HS44_.out.drop 1⟩
         clear HS44_
         go_roundg (gk9_ - 1)
         case measure => omega
         case rel => exact ⟨i + 1, _, _, _, by go_num, by omega, by omega, by simp [hd0], by simp [hd1], by simp [hd2], ⟨idx_step (p := stepC m0 m1 m2 ce s ((l.length : Int) - 1)) hi HI.out Hx13_.out (by unfold stepC; rw [show ((vr x13_.f0 x13_.f1 x13_.f2) == 0) = true from by rw [c20_A.out]; rfl, show ((x13_.f0 == 0) == (i == ((l.length : Nat) : Int) - 1)) = true from c21_A.out, show decide (x13_.f1 < (bnd m0 m1 m2 ce s x13_.f0)) = true from by have := c25_A.out; simp; omega]; first | done | rfl | simp)⟩, ⟨⟨by rw [← usei_step hi (by omega) Hx13_.out, ← HU.out.1]; first | done | rfl | (simp [incl, c37_A.out, hd0, hd1, hd2, hh13, ← h41_W.out, H39_.out]), by rw [← usei_step hi (by omega) Hx13_.out, ← HU.out.2.1]; first | done | rfl | (simp [incl, c37_A.out, hd0, hd1, hd2, hh13, ← h41_W.out, H39_.out]), by rw [← usei_step hi (by omega) Hx13_.out, ← HU.out.2.2]; first | done | rfl | (simp [incl, c37_A.out, hd0, hd1, hd2, hh13, ← h41_W.out, H39_.out])⟩⟩, HS46_⟩
        ·
         have c37_A := Aside0.mk c37_
         have c37_1 : (x13_.f0 == 1) = false := by simpa using c37_
         have c37_2 : (x13_.f0 != 1) = true := by simpa using c37_
         clear c37_
         by_cases c47_ : x13_.f0 = 3
         ·
          have c47_A := Aside0.mk c47_
          have c47_1 : (x13_.f0 == 3) = true := by simpa using c47_
          have c47_2 : (x13_.f0 != 3) = false := by simpa using c47_
          clear c47_
          have hh150 : 0 ≤ x13_.f1 := vr_le c20_A.out
          have hh15 : x13_.f1 < (m0 : Int) := by have h1 := c25_A.out; have h2 := c47_A.out; rw [h2] at h1; simp [bnd] at h1; omega
          obtain ⟨x48_, hx48_⟩ : ∃ x, x = d0.getD (x13_.f1).toNat 0 := ⟨_, rfl⟩
          have H49_ := Aside0.mk hx48_
          clear hx48_
          obtain ⟨p50_, h51_⟩ : ∃ p : Int, wrap64 (x48_ + 1) = p := ⟨_, rfl⟩
          have h51_W := Aside0.mk h51_
          have HS52_ := Aside0.mk HS35_.out.drew
          obtain ⟨q0_0, q0_1, q0_2, z0_0, z0_1, z0_2⟩ := HS35_.out.c3 0 rfl
          obtain ⟨q1_0, q1_1, q1_2, z1_0, z1_1, z1_2⟩ := HS35_.out.c3 1 rfl
          obtain ⟨q5_0, q5_1, q5_2, q5_3, q5_4, q5_5, q5_6, q5_7, z5_0, z5_1, z5_2, z5_3, z5_4, z5_5, z5_6, z5_7⟩ := HS35_.out.c8 5 rfl
          have qe0 : W34_.cell? (a12_.add ((i).toNat * 3)) = some (.int .i64 x13_.f0) := pw_cell_below HS35_.out.B E14_F0.out
          have qe1 : W34_.cell? ⟨(a12_.add ((i).toNat * 3)).block, (a12_.add ((i).toNat * 3)).off + 1, none⟩ = some (.int .i64 x13_.f1) := pw_cell_below HS35_.out.B E14_F1.out
          have qe2 : W34_.cell? ⟨(a12_.add ((i).toNat * 3)).block, (a12_.add ((i).toNat * 3)).off + 2, none⟩ = some (.int .i64 x13_.f2) := pw_cell_below HS35_.out.B E14_F2.out
          go_wp2
          refine start_ (n := 11) (S := fun w' => w'.cell? ⟨gu, 0, none⟩ = some (.slice (some ⟨g0, 0, none⟩) m0 m0) ∧ w'.cell? ⟨g18_, 1, none⟩ = some (.int .i64 x13_.f1) ∧ w'.cell? ⟨g0, x13_.f1.toNat, none⟩ = some (.int .i64 x48_) ∧ w'.frozen? ⟨g0, x13_.f1.toNat, none⟩ = false) (ds := [10]) #[false, false, false, false, false, false, false, false, false, false, false] (by kernel_rfl) rfl rfl ⟨(HS52_.out.cell 1 rfl 0), (HS52_.out.cell 0 rfl 1), (((HS52_.out.cell 4 rfl x13_.f1.toNat).trans (iv_get (by omega))).trans (by rw [H49_.out])), (HS52_.out.frozen 4 rfl x13_.f1.toNat)⟩ (fun hHeld => ?_)
          refine pz 0 (some 59) (v := ?_) (a' := ?_) rfl rfl (by kernel_rfl) (fun _ _ _ h => h) (Or.inl ⟨by rfl, ?_⟩) ?_ ?_
          rotate_left
          · intro w'
            go_simp
            with_reducible rfl
          rotate_left
          · simp only [Act.put, List.setIfInBounds_toArray, List.set_cons_zero, List.set_cons_succ, i64_w, i32_w]
            rfl
          refine pz 1 (some 60) (v := ?_) (a' := ?_) rfl rfl (by kernel_rfl) (fun _ _ _ h => h) (Or.inl ⟨by rfl, ?_⟩) ?_ ?_
          rotate_left
          · intro w'
            go_simp
            with_reducible rfl
          rotate_left
          · simp only [Act.put, List.setIfInBounds_toArray, List.set_cons_zero, List.set_cons_succ, i64_w, i32_w]
            rfl
          refine pz 2 (some 61) (v := ?_) (a' := ?_) rfl rfl (by kernel_rfl) (fun _ _ _ h => h) (Or.inl ⟨by rfl, ?_⟩) ?_ ?_
          rotate_left
          · intro w'
            go_simp
            with_reducible rfl
          rotate_left
          · simp only [Act.put, List.setIfInBounds_toArray, List.set_cons_zero, List.set_cons_succ, i64_w, i32_w]
            rfl
          refine pz 4 (some 63) (v := ?_) (a' := ?_) rfl rfl (by kernel_rfl) (fun _ _ _ h => h) (Or.inl ⟨by rfl, ?_⟩) ?_ ?_
          rotate_left
          · intro w'
            go_simp
            with_reducible rfl
          rotate_left
          · simp only [Act.put, List.setIfInBounds_toArray, List.set_cons_zero, List.set_cons_succ, i64_w, i32_w]
            rfl
          refine tz 3 (some 62) (v := ?_) (a' := ?_) rfl rfl (by kernel_rfl) (fun _ _ _ h => h) (Or.inl ⟨by rfl, ?_⟩) hHeld ?_ ?_
          rotate_left
          · rintro w' ⟨s0, s1, s2, s3⟩
            go_simp
            with_reducible rfl
          rotate_left
          · simp only [Act.put, List.setIfInBounds_toArray, List.set_cons_zero, List.set_cons_succ, i64_w, i32_w]
            rfl
          refine tz 5 (some 64) (v := ?_) (a' := ?_) rfl rfl (by kernel_rfl) (fun _ _ _ h => h) (Or.inl ⟨by rfl, ?_⟩) hHeld ?_ ?_
          rotate_left
          · rintro w' ⟨s0, s1, s2, s3⟩
            go_simp
            with_reducible rfl
          rotate_left
          · simp only [Act.put, List.setIfInBounds_toArray, List.set_cons_zero, List.set_cons_succ, i64_w, i32_w]
            rfl
          refine pz 6 (some 65) (v := ?_) (a' := ?_) rfl rfl (by kernel_rfl) (fun _ _ _ h => h) (Or.inl ⟨by rfl, ?_⟩) ?_ ?_
          rotate_left
          · intro w'
            go_simp
            with_reducible rfl
          rotate_left
          · simp only [Act.put, List.setIfInBounds_toArray, List.set_cons_zero, List.set_cons_succ, i64_w, i32_w]
            rfl
          refine tz 7 (some 66) (v := ?_) (a' := ?_) rfl rfl (by kernel_rfl) (fun _ _ _ h => h) (Or.inl ⟨by rfl, ?_⟩) hHeld ?_ ?_
          rotate_left
          · rintro w' ⟨s0, s1, s2, s3⟩
            go_simp
            with_reducible rfl
          rotate_left
          · simp only [Act.put, List.setIfInBounds_toArray, List.set_cons_zero, List.set_cons_succ, i64_w, i32_w]
            rfl
          refine pz 8 (some 67) (v := ?_) (a' := ?_) rfl rfl (by kernel_rfl) (fun _ _ _ h => h) (Or.inl ⟨by rfl, ?_⟩) ?_ ?_
          rotate_left
          · intro w'
            go_simp
            with_reducible rfl
          rotate_left
          · simp only [Act.put, List.setIfInBounds_toArray, List.set_cons_zero, List.set_cons_succ, i64_w, i32_w]
            rfl
          refine pz 9 (some 68) (v := ?_) (a' := ?_) rfl rfl (by kernel_rfl) (fun _ _ _ h => h) (Or.inl ⟨by rfl, ?_⟩) ?_ ?_
          rotate_left
          · intro w'
            go_simp
            with_reducible rfl
          rotate_left
          · simp only [Act.put, List.setIfInBounds_toArray, List.set_cons_zero, List.set_cons_succ, i64_w, i32_w]
            rfl
          refine last_ (i := 10) (N := none) #[true, true, true, true, true, true, true, true, true, true, true] rfl rfl (by kernel_rfl) (by decide) (fun K hK => ?_)
          refine skip_ (w1 := ?_) (by rfl) rfl ?_ ?_
          rotate_left
          · go_simp
            rfl
          refine hK.out _ _ ?_
          clear hK K
          refine done_ (by kernel_rfl) ?_
          clear q0_0 q0_1 q0_2 z0_0 z0_1 z0_2 q1_0 q1_1 q1_2 z1_0 z1_1 z1_2 q5_0 q5_1 q5_2 q5_3 q5_4 q5_5 q5_6 q5_7 z5_0 z5_1 z5_2 z5_3 z5_4 z5_5 z5_6 z5_7 qe0 qe1 qe2
          obtain ⟨W53_, hW55_⟩ : ∃ W, W = (W34_.setCell ⟨g0, x13_.f1.toNat, none⟩ (.int .i64 p50_)).drew := ⟨_, rfl⟩
          have HS54_ : Aside0 (KitW.St w0 W53_ (Box g18_ #[.int .i64 x13_.f0, .int .i64 x13_.f1, .int .i64 x13_.f2] 56 :: Box gu #[.slice (some ⟨g0, 0, none⟩) m0 m0, .slice (some ⟨g1, 0, none⟩) m1 m1, .slice (some ⟨g2, 0, none⟩) m2 m2] 66 :: Box g2 (iv d2) 3 :: Box g1 (iv d1) 3 :: Box g0 (iv (d0.set x13_.f1.toNat p50_)) 3 :: Box g4_ #[.slice A0 m0 c0, .slice A1 m1 c1, .slice A2 m2 c2, .int .i64 h, .int .i64 ce, .int .i64 s, .int .i64 st, .slice A7 n7 c7] 26 :: R)) := by rw [hW55_]; exact ⟨by simpa [iv_set] using (HS35_.out.set 4 rfl x13_.f1.toNat (.int .i64 p50_)).drew⟩
          rw [← hW55_]
          clear hW55_ HS35_
          have qe0 : W53_.cell? (a12_.add ((i).toNat * 3)) = some (.int .i64 x13_.f0) := pw_cell_below HS54_.out.B E14_F0.out
          have qe1 : W53_.cell? ⟨(a12_.add ((i).toNat * 3)).block, (a12_.add ((i).toNat * 3)).off + 1, none⟩ = some (.int .i64 x13_.f1) := pw_cell_below HS54_.out.B E14_F1.out
          have qe2 : W53_.cell? ⟨(a12_.add ((i).toNat * 3)).block, (a12_.add ((i).toNat * 3)).off + 2, none⟩ = some (.int .i64 x13_.f2) := pw_cell_below HS54_.out.B E14_F2.out
          go_wp2
          clear qe0 qe1 qe2
          have HS56_ : Aside0 (KitW.St w0 W53_ (Box gu #[.slice (some ⟨g0, 0, none⟩) m0 m0, .slice (some ⟨g1, 0, none⟩) m1 m1, .slice (some ⟨g2, 0, none⟩) m2 m2] 66 :: Box g2 (iv d2) 3 :: Box g1 (iv d1) 3 :: Box g0 (iv (d0.set x13_.f1.toNat p50_)) 3 :: Box g4_ #[.slice A0 m0 c0, .slice A1 m1 c1, .slice A2 m2 c2, .int .i64 h, .int .i64 ce, .int .i64 s, .int .i64 st, .slice A7 n7 c7] 26 :: R)) := ⟨HS54_.out.drop 1⟩
          clear HS54_
          go_roundg (gk9_ - 1)
          case measure => omega
          case rel => exact ⟨i + 1, _, _, _, by go_num, by omega, by omega, by simp [hd0], by simp [hd1], by simp [hd2], ⟨idx_step (p := stepC m0 m1 m2 ce s ((l.length : Int) - 1)) hi HI.out Hx13_.out (by unfold stepC; rw [show ((vr x13_.f0 x13_.f1 x13_.f2) == 0) = true from by rw [c20_A.out]; rfl, show ((x13_.f0 == 0) == (i == ((l.length : Nat) : Int) - 1)) = true from c21_A.out, show decide (x13_.f1 < (bnd m0 m1 m2 ce s x13_.f0)) = true from by have := c25_A.out; simp; omega]; first | done | rfl | simp)⟩, ⟨⟨by rw [← usei_step hi (by omega) Hx13_.out, ← HU.out.1]; first | done | rfl | (simp [incl, c37_A.out, c47_A.out, hd0, hd1, hd2, hh15, ← h51_W.out, H49_.out]), by rw [← usei_step hi (by omega) Hx13_.out, ← HU.out.2.1]; first | done | rfl | (simp [incl, c37_A.out, c47_A.out, hd0, hd1, hd2, hh15, ← h51_W.out, H49_.out]), by rw [← usei_step hi (by omega) Hx13_.out, ← HU.out.2.2]; first | done | rfl | (simp [incl, c37_A.out, c47_A.out, hd0, hd1, hd2, hh15, ← h51_W.out, H49_.out])⟩⟩, HS56_⟩
         ·
          have c47_A := Aside0.mk c47_
          have c47_1 : (x13_.f0 == 3) = false := by simpa using c47_
          have c47_2 : (x13_.f0 != 3) = true := by simpa using c47_
          clear c47_
          by_cases c57_ : x13_.f0 = 28
          ·
           have c57_A := Aside0.mk c57_
           have c57_1 : (x13_.f0 == 28) = true := by simpa using c57_
           have c57_2 : (x13_.f0 != 28) = false := by simpa using c57_
           clear c57_
           have hh170 : 0 ≤ x13_.f1 := vr_le c20_A.out
           have hh17 : x13_.f1 < (m1 : Int) := by have h1 := c25_A.out; have h2 := c57_A.out; rw [h2] at h1; simp [bnd] at h1; omega
           obtain ⟨x58_, hx58_⟩ : ∃ x, x = d1.getD (x13_.f1).toNat 0 := ⟨_, rfl⟩
           have H59_ := Aside0.mk hx58_
           clear hx58_
           obtain ⟨p60_, h61_⟩ : ∃ p : Int, wrap64 (x58_ + 1) = p := ⟨_, rfl⟩
           have h61_W := Aside0.mk h61_
           have HS62_ := Aside0.mk HS35_.out.drew
           obtain ⟨q0_0, q0_1, q0_2, z0_0, z0_1, z0_2⟩ := HS35_.out.c3 0 rfl
           obtain ⟨q1_0, q1_1, q1_2, z1_0, z1_1, z1_2⟩ := HS35_.out.c3 1 rfl
           obtain ⟨q5_0, q5_1, q5_2, q5_3, q5_4, q5_5, q5_6, q5_7, z5_0, z5_1, z5_2, z5_3, z5_4, z5_5, z5_6, z5_7⟩ := HS35_.out.c8 5 rfl
           have qe0 : W34_.cell? (a12_.add ((i).toNat * 3)) = some (.int .i64 x13_.f0) := pw_cell_below HS35_.out.B E14_F0.out
           have qe1 : W34_.cell? ⟨(a12_.add ((i).toNat * 3)).block, (a12_.add ((i).toNat * 3)).off + 1, none⟩ = some (.int .i64 x13_.f1) := pw_cell_below HS35_.out.B E14_F1.out
           have qe2 : W34_.cell? ⟨(a12_.add ((i).toNat * 3)).block, (a12_.add ((i).toNat * 3)).off + 2, none⟩ = some (.int .i64 x13_.f2) := pw_cell_below HS35_.out.B E14_F2.out
           go_wp2
           refine start_ (n := 11) (S := fun w' => w'.cell? ⟨gu, 1, none⟩ = some (.slice (some ⟨g1, 0, none⟩) m1 m1) ∧ w'.cell? ⟨g18_, 1, none⟩ = some (.int .i64 x13_.f1) ∧ w'.cell? ⟨g1, x13_.f1.toNat, none⟩ = some (.int .i64 x58_) ∧ w'.frozen? ⟨g1, x13_.f1.toNat, none⟩ = false) (ds := [10]) #[false, false, false, false, false, false, false, false, false, false, false] (by kernel_rfl) rfl rfl ⟨(HS62_.out.cell 1 rfl 1), (HS62_.out.cell 0 rfl 1), (((HS62_.out.cell 3 rfl x13_.f1.toNat).trans (iv_get (by omega))).trans (by rw [H59_.out])), (HS62_.out.frozen 3 rfl x13_.f1.toNat)⟩ (fun hHeld => ?_)
           refine pz 0 (some 71) (v := ?_) (a' := ?_) rfl rfl (by kernel_rfl) (fun _ _ _ h => h) (Or.inl ⟨by rfl, ?_⟩) ?_ ?_
           rotate_left
           · intro w'
             go_simp
             with_reducible rfl
           rotate_left
           · simp only [Act.put, List.setIfInBounds_toArray, List.set_cons_zero, List.set_cons_succ, i64_w, i32_w]
             rfl
           refine pz 1 (some 72) (v := ?_) (a' := ?_) rfl rfl (by kernel_rfl) (fun _ _ _ h => h) (Or.inl ⟨by rfl, ?_⟩) ?_ ?_
           rotate_left
           · intro w'
             go_simp
             with_reducible rfl
           rotate_left
           · simp only [Act.put, List.setIfInBounds_toArray, List.set_cons_zero, List.set_cons_succ, i64_w, i32_w]
             rfl
           refine pz 2 (some 73) (v := ?_) (a' := ?_) rfl rfl (by kernel_rfl) (fun _ _ _ h => h) (Or.inl ⟨by rfl, ?_⟩) ?_ ?_
           rotate_left
           · intro w'
             go_simp
             with_reducible rfl
           rotate_left
           · simp only [Act.put, List.setIfInBounds_toArray, List.set_cons_zero, List.set_cons_succ, i64_w, i32_w]
             rfl
           refine pz 4 (some 75) (v := ?_) (a' := ?_) rfl rfl (by kernel_rfl) (fun _ _ _ h => h) (Or.inl ⟨by rfl, ?_⟩) ?_ ?_
           rotate_left
           · intro w'
             go_simp
             with_reducible rfl
           rotate_left
           · simp only [Act.put, List.setIfInBounds_toArray, List.set_cons_zero, List.set_cons_succ, i64_w, i32_w]
             rfl
           refine tz 3 (some 74) (v := ?_) (a' := ?_) rfl rfl (by kernel_rfl) (fun _ _ _ h => h) (Or.inl ⟨by rfl, ?_⟩) hHeld ?_ ?_
           rotate_left
           · rintro w' ⟨s0, s1, s2, s3⟩
             go_simp
             with_reducible rfl
           rotate_left
           · simp only [Act.put, List.setIfInBounds_toArray, List.set_cons_zero, List.set_cons_succ, i64_w, i32_w]
             rfl
           refine tz 5 (some 76) (v := ?_) (a' := ?_) rfl rfl (by kernel_rfl) (fun _ _ _ h => h) (Or.inl ⟨by rfl, ?_⟩) hHeld ?_ ?_
           rotate_left
           · rintro w' ⟨s0, s1, s2, s3⟩
             go_simp
             with_reducible rfl
           rotate_left
           · simp only [Act.put, List.setIfInBounds_toArray, List.set_cons_zero, List.set_cons_succ, i64_w, i32_w]
             rfl
           refine pz 6 (some 77) (v := ?_) (a' := ?_) rfl rfl (by kernel_rfl) (fun _ _ _ h => h) (Or.inl ⟨by rfl, ?_⟩) ?_ ?_
           rotate_left
           · intro w'
             go_simp
             with_reducible rfl
           rotate_left
           · simp only [Act.put, List.setIfInBounds_toArray, List.set_cons_zero, List.set_cons_succ, i64_w, i32_w]
             rfl
           refine tz 7 (some 78) (v := ?_) (a' := ?_) rfl rfl (by kernel_rfl) (fun _ _ _ h => h) (Or.inl ⟨by rfl, ?_⟩) hHeld ?_ ?_
           rotate_left
           · rintro w' ⟨s0, s1, s2, s3⟩
             go_simp
             with_reducible rfl
           rotate_left
           · simp only [Act.put, List.setIfInBounds_toArray, List.set_cons_zero, List.set_cons_succ, i64_w, i32_w]
             rfl
           refine pz 8 (some 79) (v := ?_) (a' := ?_) rfl rfl (by kernel_rfl) (fun _ _ _ h => h) (Or.inl ⟨by rfl, ?_⟩) ?_ ?_
           rotate_left
           · intro w'
             go_simp
             with_reducible rfl
           rotate_left
           · simp only [Act.put, List.setIfInBounds_toArray, List.set_cons_zero, List.set_cons_succ, i64_w, i32_w]
             rfl
           refine pz 9 (some 80) (v := ?_) (a' := ?_) rfl rfl (by kernel_rfl) (fun _ _ _ h => h) (Or.inl ⟨by rfl, ?_⟩) ?_ ?_
           rotate_left
           · intro w'
             go_simp
             with_reducible rfl
           rotate_left
           · simp only [Act.put, List.setIfInBounds_toArray, List.set_cons_zero, List.set_cons_succ, i64_w, i32_w]
             rfl
           refine last_ (i := 10) (N := none) #[true, true, true, true, true, true, true, true, true, true, true] rfl rfl (by kernel_rfl) (by decide) (fun K hK => ?_)
           refine skip_ (w1 := ?_) (by rfl) rfl ?_ ?_
           rotate_left
           · go_simp
             rfl
           refine hK.out _ _ ?_
           clear hK K
           refine done_ (by kernel_rfl) ?_
           clear q0_0 q0_1 q0_2 z0_0 z0_1 z0_2 q1_0 q1_1 q1_2 z1_0 z1_1 z1_2 q5_0 q5_1 q5_2 q5_3 q5_4 q5_5 q5_6 q5_7 z5_0 z5_1 z5_2 z5_3 z5_4 z5_5 z5_6 z5_7 qe0 qe1 qe2
           obtain ⟨W63_, hW65_⟩ : ∃ W, W = (W34_.setCell ⟨g1, x13_.f1.toNat, none⟩ (.int .i64 p60_)).drew := ⟨_, rfl⟩
           have HS64_ : Aside0 (KitW.St w0 W63_ (Box g18_ #[.int .i64 x13_.f0, .int .i64 x13_.f1, .int .i64 x13_.f2] 56 :: Box gu #[.slice (some ⟨g0, 0, none⟩) m0 m0, .slice (some ⟨g1, 0, none⟩) m1 m1, .slice (some ⟨g2, 0, none⟩) m2 m2] 66 :: Box g2 (iv d2) 3 :: Box g1 (iv (d1.set x13_.f1.toNat p60_)) 3 :: Box g0 (iv d0) 3 :: Box g4_ #[.slice A0 m0 c0, .slice A1 m1 c1, .slice A2 m2 c2, .int .i64 h, .int .i64 ce, .int .i64 s, .int .i64 st, .slice A7 n7 c7] 26 :: R)) := by rw [hW65_]; exact ⟨by simpa [iv_set] using (HS35_.out.set 3 rfl x13_.f1.toNat (.int .i64 p60_)).drew⟩
           rw [← hW65_]
           clear hW65_ HS35_
           have qe0 : W63_.cell? (a12_.add ((i).toNat * 3)) = some (.int .i64 x13_.f0) := pw_cell_below HS64_.out.B E14_F0.out
           have qe1 : W63_.cell? ⟨(a12_.add ((i).toNat * 3)).block, (a12_.add ((i).toNat * 3)).off + 1, none⟩ = some (.int .i64 x13_.f1) := pw_cell_below HS64_.out.B E14_F1.out
           have qe2 : W63_.cell? ⟨(a12_.add ((i).toNat * 3)).block, (a12_.add ((i).toNat * 3)).off + 2, none⟩ = some (.int .i64 x13_.f2) := pw_cell_below HS64_.out.B E14_F2.out
           go_wp2
           clear qe0 qe1 qe2
           have HS66_ : Aside0 (KitW.St w0 W63_ (Box gu #[.slice (some ⟨g0, 0, none⟩) m0 m0, .slice (some ⟨g1, 0, none⟩) m1 m1, .slice (some ⟨g2, 0, none⟩) m2 m2] 66 :: Box g2 (iv d2) 3 :: Box g1 (iv (d1.set x13_.f1.toNat p60_)) 3 :: Box g0 (iv d0) 3 :: Box g4_ #[.slice A0 m0 c0, .slice A1 m1 c1, .slice A2 m2 c2, .int .i64 h, .int .i64 ce, .int .i64 s, .int .i64 st, .slice A7 n7 c7] 26 :: R)) := ⟨HS64_.out.drop 1⟩
           clear HS64_
           go_roundg (gk9_ - 1)
           case measure => omega
           case rel => exact ⟨i + 1, _, _, _, by go_num, by omega, by omega, by simp [hd0], by simp [hd1], by simp [hd2], ⟨idx_step (p := stepC m0 m1 m2 ce s ((l.length : Int) - 1)) hi HI.out Hx13_.out (by unfold stepC; rw [show ((vr x13_.f0 x13_.f1 x13_.f2) == 0) = true from by rw [c20_A.out]; rfl, show ((x13_.f0 == 0) == (i == ((l.length : Nat) : Int) - 1)) = true from c21_A.out, show decide (x13_.f1 < (bnd m0 m1 m2 ce s x13_.f0)) = true from by have := c25_A.out; simp; omega]; first | done | rfl | simp)⟩, ⟨⟨by rw [← usei_step hi (by omega) Hx13_.out, ← HU.out.1]; first | done | rfl | (simp [incl, c37_A.out, c47_A.out, c57_A.out, hd0, hd1, hd2, hh17, ← h61_W.out, H59_.out]), by rw [← usei_step hi (by omega) Hx13_.out, ← HU.out.2.1]; first | done | rfl | (simp [incl, c37_A.out, c47_A.out, c57_A.out, hd0, hd1, hd2, hh17, ← h61_W.out, H59_.out]), by rw [← usei_step hi (by omega) Hx13_.out, ← HU.out.2.2]; first | done | rfl | (simp [incl, c37_A.out, c47_A.out, c57_A.out, hd0, hd1, hd2, hh17, ← h61_W.out, H59_.out])⟩⟩, HS66_⟩
          ·
           have c57_A := Aside0.mk c57_
           have c57_1 : (x13_.f0 == 28) = false := by simpa using c57_
           have c57_2 : (x13_.f0 != 28) = true := by simpa using c57_
           clear c57_
           obtain ⟨q0_0, q0_1, q0_2, z0_0, z0_1, z0_2⟩ := HS35_.out.c3 0 rfl
           obtain ⟨q5_0, q5_1, q5_2, q5_3, q5_4, q5_5, q5_6, q5_7, z5_0, z5_1, z5_2, z5_3, z5_4, z5_5, z5_6, z5_7⟩ := HS35_.out.c8 5 rfl
           have qe0 : W34_.cell? (a12_.add ((i).toNat * 3)) = some (.int .i64 x13_.f0) := pw_cell_below HS35_.out.B E14_F0.out
           have qe1 : W34_.cell? ⟨(a12_.add ((i).toNat * 3)).block, (a12_.add ((i).toNat * 3)).off + 1, none⟩ = some (.int .i64 x13_.f1) := pw_cell_below HS35_.out.B E14_F1.out
           have qe2 : W34_.cell? ⟨(a12_.add ((i).toNat * 3)).block, (a12_.add ((i).toNat * 3)).off + 2, none⟩ = some (.int .i64 x13_.f2) := pw_cell_below HS35_.out.B E14_F2.out
           go_wp2
           clear q0_0 q0_1 q0_2 z0_0 z0_1 z0_2 q5_0 q5_1 q5_2 q5_3 q5_4 q5_5 q5_6 q5_7 z5_0 z5_1 z5_2 z5_3 z5_4 z5_5 z5_6 z5_7 qe0 qe1 qe2
           have HS67_ : Aside0 (KitW.St w0 W34_ (Box gu #[.slice (some ⟨g0, 0, none⟩) m0 m0, .slice (some ⟨g1, 0, none⟩) m1 m1, .slice (some ⟨g2, 0, none⟩) m2 m2] 66 :: Box g2 (iv d2) 3 :: Box g1 (iv d1) 3 :: Box g0 (iv d0) 3 :: Box g4_ #[.slice A0 m0 c0, .slice A1 m1 c1, .slice A2 m2 c2, .int .i64 h, .int .i64 ce, .int .i64 s, .int .i64 st, .slice A7 n7 c7] 26 :: R)) := ⟨HS35_.out.drop 1⟩
           clear HS35_
           go_roundg (gk9_ - 1)
           case measure => omega
           case rel => exact ⟨i + 1, _, _, _, by go_num, by omega, by omega, by simp [hd0], by simp [hd1], by simp [hd2], ⟨idx_step (p := stepC m0 m1 m2 ce s ((l.length : Int) - 1)) hi HI.out Hx13_.out (by unfold stepC; rw [show ((vr x13_.f0 x13_.f1 x13_.f2) == 0) = true from by rw [c20_A.out]; rfl, show ((x13_.f0 == 0) == (i == ((l.length : Nat) : Int) - 1)) = true from c21_A.out, show decide (x13_.f1 < (bnd m0 m1 m2 ce s x13_.f0)) = true from by have := c25_A.out; simp; omega]; first | done | rfl | simp)⟩, ⟨⟨by rw [← usei_step hi (by omega) Hx13_.out, ← HU.out.1]; first | done | rfl | (simp [incl, c37_A.out, c47_A.out, c57_A.out, hd0, hd1, hd2]), by rw [← usei_step hi (by omega) Hx13_.out, ← HU.out.2.1]; first | done | rfl | (simp [incl, c37_A.out, c47_A.out, c57_A.out, hd0, hd1, hd2]), by rw [← usei_step hi (by omega) Hx13_.out, ← HU.out.2.2]; first | done | rfl | (simp [incl, c37_A.out, c47_A.out, c57_A.out, hd0, hd1, hd2])⟩⟩, HS67_⟩
      ·
       have c21_A := Aside0.mk (Bool.eq_false_iff.2 c21_)
       have c21_1 := c21_A.out
       clear c21_
       obtain ⟨q0_0, q0_1, q0_2, z0_0, z0_1, z0_2⟩ := HS16_.out.c3 0 rfl
       have qe0 : W15_.cell? (a12_.add ((i).toNat * 3)) = some (.int .i64 x13_.f0) := pw_cell_below HS16_.out.B E14_F0.out
       have qe1 : W15_.cell? ⟨(a12_.add ((i).toNat * 3)).block, (a12_.add ((i).toNat * 3)).off + 1, none⟩ = some (.int .i64 x13_.f1) := pw_cell_below HS16_.out.B E14_F1.out
       have qe2 : W15_.cell? ⟨(a12_.add ((i).toNat * 3)).block, (a12_.add ((i).toNat * 3)).off + 2, none⟩ = some (.int .i64 x13_.f2) := pw_cell_below HS16_.out.B E14_F2.out
       go_wp2_with (go_at_call 57; refine stop ?_)
       refine Stop.mk ?_
       refine (validR_calls x13_.f0 x13_.f1 x13_.f2 _ (LR.out.below HS16_.out.B)).mono ?_
       rintro e W68_ ⟨rfl, k70_⟩
       clear q0_0 q0_1 q0_2 z0_0 z0_1 z0_2 qe0 qe1 qe2
       have HS69_ := Aside0.mk (HS16_.out.below k70_)
       clear k70_ HS16_
       obtain ⟨q0_0, q0_1, q0_2, z0_0, z0_1, z0_2⟩ := HS69_.out.c3 0 rfl
       have qe0 : W68_.cell? (a12_.add ((i).toNat * 3)) = some (.int .i64 x13_.f0) := pw_cell_below HS69_.out.B E14_F0.out
       have qe1 : W68_.cell? ⟨(a12_.add ((i).toNat * 3)).block, (a12_.add ((i).toNat * 3)).off + 1, none⟩ = some (.int .i64 x13_.f1) := pw_cell_below HS69_.out.B E14_F1.out
       have qe2 : W68_.cell? ⟨(a12_.add ((i).toNat * 3)).block, (a12_.add ((i).toNat * 3)).off + 2, none⟩ = some (.int .i64 x13_.f2) := pw_cell_below HS69_.out.B E14_F2.out
       go_wp2
       go_ret
       clear q0_0 q0_1 q0_2 z0_0 z0_1 z0_2 qe0 qe1 qe2
       have HS71_ : Aside0 (KitW.St w0 W68_ (Box gu #[.slice (some ⟨g0, 0, none⟩) m0 m0, .slice (some ⟨g1, 0, none⟩) m1 m1, .slice (some ⟨g2, 0, none⟩) m2 m2] 66 :: Box g2 (iv d2) 3 :: Box g1 (iv d1) 3 :: Box g0 (iv d0) 3 :: Box g4_ #[.slice A0 m0 c0, .slice A1 m1 c1, .slice A2 m2 c2, .int .i64 h, .int .i64 ce, .int .i64 s, .int .i64 st, .slice A7 n7 c7] 26 :: R)) := ⟨HS69_.out.drop 1⟩
       clear HS69_
       have HS72_ : Aside0 (KitW.St w0 W68_ (Box g4_ #[.slice A0 m0 c0, .slice A1 m1 c1, .slice A2 m2 c2, .int .i64 h, .int .i64 ce, .int .i64 s, .int .i64 st, .slice A7 n7 c7] 26 :: Box gu #[.slice (some ⟨g0, 0, none⟩) m0 m0, .slice (some ⟨g1, 0, none⟩) m1 m1, .slice (some ⟨g2, 0, none⟩) m2 m2] 66 :: Box g2 (iv d2) 3 :: Box g1 (iv d1) 3 :: Box g0 (iv d0) 3 :: R)) := ⟨St.rot [Box gu #[.slice (some ⟨g0, 0, none⟩) m0 m0, .slice (some ⟨g1, 0, none⟩) m1 m1, .slice (some ⟨g2, 0, none⟩) m2 m2] 66, Box g2 (iv d2) 3, Box g1 (iv d1) 3, Box g0 (iv d0) 3] [Box g4_ #[.slice A0 m0 c0, .slice A1 m1 c1, .slice A2 m2 c2, .int .i64 h, .int .i64 ce, .int .i64 s, .int .i64 st, .slice A7 n7 c7] 26] HS71_.out⟩
       clear HS71_
       have HS73_ : Aside0 (KitW.St w0 W68_ (Box gu #[.slice (some ⟨g0, 0, none⟩) m0 m0, .slice (some ⟨g1, 0, none⟩) m1 m1, .slice (some ⟨g2, 0, none⟩) m2 m2] 66 :: Box g2 (iv d2) 3 :: Box g1 (iv d1) 3 :: Box g0 (iv d0) 3 :: R)) := ⟨HS72_.out.drop 1⟩
       clear HS72_
       have kk := codeC_no (m0 := m0) (m1 := m1) (m2 := m2) (ce := ce) (s := s) hi (by omega) Hx13_.out (by unfold stepC; rw [show ((vr x13_.f0 x13_.f1 x13_.f2) == 0) = true from by rw [c20_A.out]; rfl, show ((x13_.f0 == 0) == (i == ((l.length : Nat) : Int) - 1)) = false from c21_A.out]; first | done | rfl | simp)
       exact ⟨_, _, _, by simp [incl_len, hd0], by simp [incl_len, hd1], by simp [incl_len, hd2], by rw [kk]; rfl, fun h => (by rw [kk] at h; cases h), HS73_.out⟩
     ·
      have c20_A := Aside0.mk c20_
      have c20_1 : ((vr x13_.f0 x13_.f1 x13_.f2) == 0) = false := by simpa using c20_
      have c20_2 : ((vr x13_.f0 x13_.f1 x13_.f2) != 0) = true := by simpa using c20_
      clear c20_
      obtain ⟨q0_0, q0_1, q0_2, z0_0, z0_1, z0_2⟩ := HS16_.out.c3 0 rfl
      have qe0 : W15_.cell? (a12_.add ((i).toNat * 3)) = some (.int .i64 x13_.f0) := pw_cell_below HS16_.out.B E14_F0.out
      have qe1 : W15_.cell? ⟨(a12_.add ((i).toNat * 3)).block, (a12_.add ((i).toNat * 3)).off + 1, none⟩ = some (.int .i64 x13_.f1) := pw_cell_below HS16_.out.B E14_F1.out
      have qe2 : W15_.cell? ⟨(a12_.add ((i).toNat * 3)).block, (a12_.add ((i).toNat * 3)).off + 2, none⟩ = some (.int .i64 x13_.f2) := pw_cell_below HS16_.out.B E14_F2.out
      go_wp2_with (go_at_call 57; refine stop ?_)
      refine Stop.mk ?_
      refine (validR_calls x13_.f0 x13_.f1 x13_.f2 _ (LR.out.below HS16_.out.B)).mono ?_
      rintro e W74_ ⟨rfl, k76_⟩
      clear q0_0 q0_1 q0_2 z0_0 z0_1 z0_2 qe0 qe1 qe2
      have HS75_ := Aside0.mk (HS16_.out.below k76_)
      clear k76_ HS16_
      obtain ⟨q0_0, q0_1, q0_2, z0_0, z0_1, z0_2⟩ := HS75_.out.c3 0 rfl
      have qe0 : W74_.cell? (a12_.add ((i).toNat * 3)) = some (.int .i64 x13_.f0) := pw_cell_below HS75_.out.B E14_F0.out
      have qe1 : W74_.cell? ⟨(a12_.add ((i).toNat * 3)).block, (a12_.add ((i).toNat * 3)).off + 1, none⟩ = some (.int .i64 x13_.f1) := pw_cell_below HS75_.out.B E14_F1.out
      have qe2 : W74_.cell? ⟨(a12_.add ((i).toNat * 3)).block, (a12_.add ((i).toNat * 3)).off + 2, none⟩ = some (.int .i64 x13_.f2) := pw_cell_below HS75_.out.B E14_F2.out
      go_wp2
      go_ret
      clear q0_0 q0_1 q0_2 z0_0 z0_1 z0_2 qe0 qe1 qe2
      have HS77_ : Aside0 (KitW.St w0 W74_ (Box gu #[.slice (some ⟨g0, 0, none⟩) m0 m0, .slice (some ⟨g1, 0, none⟩) m1 m1, .slice (some ⟨g2, 0, none⟩) m2 m2] 66 :: Box g2 (iv d2) 3 :: Box g1 (iv d1) 3 :: Box g0 (iv d0) 3 :: Box g4_ #[.slice A0 m0 c0, .slice A1 m1 c1, .slice A2 m2 c2, .int .i64 h, .int .i64 ce, .int .i64 s, .int .i64 st, .slice A7 n7 c7] 26 :: R)) := ⟨HS75_.out.drop 1⟩
      clear HS75_
      have HS78_ : Aside0 (KitW.St w0 W74_ (Box g4_ #[.slice A0 m0 c0, .slice A1 m1 c1, .slice A2 m2 c2, .int .i64 h, .int .i64 ce, .int .i64 s, .int .i64 st, .slice A7 n7 c7] 26 :: Box gu #[.slice (some ⟨g0, 0, none⟩) m0 m0, .slice (some ⟨g1, 0, none⟩) m1 m1, .slice (some ⟨g2, 0, none⟩) m2 m2] 66 :: Box g2 (iv d2) 3 :: Box g1 (iv d1) 3 :: Box g0 (iv d0) 3 :: R)) := ⟨St.rot [Box gu #[.slice (some ⟨g0, 0, none⟩) m0 m0, .slice (some ⟨g1, 0, none⟩) m1 m1, .slice (some ⟨g2, 0, none⟩) m2 m2] 66, Box g2 (iv d2) 3, Box g1 (iv d1) 3, Box g0 (iv d0) 3] [Box g4_ #[.slice A0 m0 c0, .slice A1 m1 c1, .slice A2 m2 c2, .int .i64 h, .int .i64 ce, .int .i64 s, .int .i64 st, .slice A7 n7 c7] 26] HS77_.out⟩
      clear HS77_
      have HS79_ : Aside0 (KitW.St w0 W74_ (Box gu #[.slice (some ⟨g0, 0, none⟩) m0 m0, .slice (some ⟨g1, 0, none⟩) m1 m1, .slice (some ⟨g2, 0, none⟩) m2 m2] 66 :: Box g2 (iv d2) 3 :: Box g1 (iv d1) 3 :: Box g0 (iv d0) 3 :: R)) := ⟨HS78_.out.drop 1⟩
      clear HS78_
      have kk := codeC_no (m0 := m0) (m1 := m1) (m2 := m2) (ce := ce) (s := s) hi (by omega) Hx13_.out (by unfold stepC; rw [show ((vr x13_.f0 x13_.f1 x13_.f2) == 0) = false from by simpa using c20_A.out]; first | done | rfl | simp)
      exact ⟨_, _, _, by simp [incl_len, hd0], by simp [incl_len, hd1], by simp [incl_len, hd2], by rw [kk]; rfl, fun h => (by rw [kk] at h; cases h), HS79_.out⟩
    ·
     have c11_1 : decide (i < ((l.length : Nat) : Int)) = false := by simpa using c11_
     have c11_2 : ((l.length : Nat) : Int) ≤ i := by omega
     have c11_A := Aside0.mk c11_2
     clear c11_
     go_wp2
     go_ret
     have HS80_ : Aside0 (KitW.St w0 wr10_ (Box g4_ #[.slice A0 m0 c0, .slice A1 m1 c1, .slice A2 m2 c2, .int .i64 h, .int .i64 ce, .int .i64 s, .int .i64 st, .slice A7 n7 c7] 26 :: Box gu #[.slice (some ⟨g0, 0, none⟩) m0 m0, .slice (some ⟨g1, 0, none⟩) m1 m1, .slice (some ⟨g2, 0, none⟩) m2 m2] 66 :: Box g2 (iv d2) 3 :: Box g1 (iv d1) 3 :: Box g0 (iv d0) 3 :: R)) := ⟨St.rot [Box gu #[.slice (some ⟨g0, 0, none⟩) m0 m0, .slice (some ⟨g1, 0, none⟩) m1 m1, .slice (some ⟨g2, 0, none⟩) m2 m2] 66, Box g2 (iv d2) 3, Box g1 (iv d1) 3, Box g0 (iv d0) 3] [Box g4_ #[.slice A0 m0 c0, .slice A1 m1 c1, .slice A2 m2 c2, .int .i64 h, .int .i64 ce, .int .i64 s, .int .i64 st, .slice A7 n7 c7] 26] HSr.out⟩
     clear HSr
     have HS81_ : Aside0 (KitW.St w0 wr10_ (Box gu #[.slice (some ⟨g0, 0, none⟩) m0 m0, .slice (some ⟨g1, 0, none⟩) m1 m1, .slice (some ⟨g2, 0, none⟩) m2 m2] 66 :: Box g2 (iv d2) 3 :: Box g1 (iv d1) 3 :: Box g0 (iv d0) 3 :: R)) := ⟨HS80_.out.drop 1⟩
     clear HS80_
     have kk := codeC_yes (m0 := m0) (m1 := m1) (m2 := m2) (ce := ce) (s := s) (l := l) (by omega) (fun j hj => HI.out j (by omega))
     exact ⟨_, _, _, hd0, hd1, hd2, by rw [kk]; rfl, fun _ => ⟨by rw [HU.out.1, List.take_of_length_le (by omega)], by rw [HU.out.2.1, List.take_of_length_le (by omega)], by rw [HU.out.2.2, List.take_of_length_le (by omega)]⟩, HS81_.out⟩
end Cn
end Go.Proofs.YtmhndfnmdkeiaaaDoor
