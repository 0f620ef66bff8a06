/- Canon of the document s answer: walked. No condition beyond the tables as they are laid. -/
import Derived.Test.YtmhndfnmdkeiaaaDoorCe
import Derived.Test.YtmhndfnmdkeiaaaDoorCb
import Derived.Outline
namespace Go.Proofs.YtmhndfnmdkeiaaaDoor
open Go.RowKit Go.Proofs.YtmhndfnmdkeiaaaDoorW.PrintWords Go.Proofs.YtmhndfnmdkeiaaaDoorW.PrintLast Go.Proofs.YtmhndfnmdkeiaaaDoorW.PrintMore
open KitW PEqual
namespace Cn
set_option linter.unusedSimpArgs false
set_option linter.unusedVariables false
attribute [local go_sem] max2_int min2_int max_two min_two max_three min_three max_four min_four

def cnR (m0 m1 m2 : Nat) (h ce s : Int) : List S54 → Int → Int → List Int → List Int → List Int → Option (Int × List Int × List Int × List Int)
  | [], _, n, b0, b1, b2 => some (n, b0, b1, b2)
  | d :: ds, last, n, b0, b1, b2 => if codeC m0 m1 m2 ce s d.f1 = true ∧ wi d.f0 h = true ∧ last < d.f0 then cnR m0 m1 m2 h ce s ds d.f0 (n + (d.f1.length : Int)) (usei 3 d.f1 b0) (usei 28 d.f1 b1) (usei 1 d.f1 b2) else none
def canR (l0 l1 : List ByteArray) (l2 : List Int) (h ce s st : Int) (ds : List S54) : Int :=
  if lstB l0 l1 l2 h ce s st = true then
    match cnR l0.length l1.length l2.length h ce s ds (-1) 0 (List.replicate l0.length 0) (List.replicate l1.length 0) (List.replicate l2.length 0) with
    | none => 121
    | some (n, d0, d1, d2) => if d0.any isZ = true then 121 else if d1.any isZ = true then 121 else if d2.any isZ = true then 121 else if 262144 < n then 121 else 0
  else 121
theorem lstB_h {l0 l1 : List ByteArray} {l2 : List Int} {h ce s st : Int} (hh : lstB l0 l1 l2 h ce s st = true) : h ≤ 3660 := by
  unfold lstB wi at hh
  simp only [Bool.and_eq_true, decide_eq_true_eq] at hh
  omega
theorem none_len {A0 : Option Addr} {c0 n : Nat} {l : List Int} {w : World} (hn : l.length = n) (hr : Kd.C (Kd.int .i64) w A0 l.length l) : Calls Tryd.prog 28 #[.slice A0 n c0] w fun e w' => e = .returned (.bool (l.any isZ)) ∧ w' = w := by
  subst hn
  exact none_calls A0 c0 l w hr
theorem wi_le {a h : Int} (hh : wi a h = true) : 0 ≤ a ∧ a ≤ h := by
  unfold wi at hh
  simp only [Bool.and_eq_true, decide_eq_true_eq] at hh
  exact hh
set_option maxRecDepth 100000 in
set_option maxHeartbeats 4000000 in
theorem canR_calls (A0 : Option Addr) (c0 : Nat) (l0 : List ByteArray) (A1 : Option Addr) (c1 : Nat) (l1 : List ByteArray) (A2 : Option Addr) (c2 : Nat) (l2 : List Int) (h ce s st : Int) (A7 : Option Addr) (c7 : Nat) (ds : List S54) (w : World) (r0 : Kd.C Kd.string w A0 l0.length l0) (r1 : Kd.C Kd.string w A1 l1.length l1) (r2 : Kd.C (Kd.int .i64) w A2 l2.length l2) (z0 : ∀ s ∈ l0, s.size ≤ 140737488351232) (r7 : k54.C w A7 ds.length ds) (lr : Lr w) (hb : ∀ d ∈ ds, d.f1.length ≤ 140737488351232) : Calls Tryd.prog 10 #[.agg #[.slice A0 l0.length c0, .slice A1 l1.length c1, .slice A2 l2.length c2, .int .i64 h, .int .i64 ce, .int .i64 s, .int .i64 st, .slice A7 ds.length c7]] w fun e w' => e = .returned (.int .i64 (canR l0 l1 l2 h ce s st ds)) ∧ Below w.heap.size w w' := by
  have Z0 := Aside0.mk z0
  clear z0
  have R0 := Aside0.mk r0
  have R1 := Aside0.mk r1
  have R2 := Aside0.mk r2
  have m0 := C_max r0
  have m1 := C_max r1
  have m2 := C_max r2
  have R7 := Aside0.mk r7
  have m7 := C_max r7
  have LR := Aside0.mk lr
  have HB := Aside0.mk hb
  clear r0 r1 r2 r7 lr hb
  have HS0 := Aside0.mk (St.start w)
  go_enter Tryd.func10, Tryd.ntmps10
  go_upto_region 1 with (fail)
  obtain ⟨W1_, hW3_⟩ : ∃ W, W = (w.alloc (.cells #[.slice A0 l0.length c0, .slice A1 l1.length c1, .slice A2 l2.length c2, .int .i64 h, .int .i64 ce, .int .i64 s, .int .i64 st, .slice A7 ds.length c7] 26 (0, 0))) := ⟨_, rfl⟩
  obtain ⟨g4_, hg5_⟩ : ∃ g, g = w.heap.size := ⟨_, rfl⟩
  have HS2_ : Aside0 (KitW.St w W1_ [Box g4_ #[.slice A0 l0.length c0, .slice A1 l1.length c1, .slice A2 l2.length c2, .int .i64 h, .int .i64 ce, .int .i64 s, .int .i64 st, .slice A7 ds.length c7] 26]) := by rw [hW3_, hg5_]; exact ⟨by simpa using (HS0.out.allocF #[.slice A0 l0.length c0, .slice A1 l1.length c1, .slice A2 l2.length c2, .int .i64 h, .int .i64 ce, .int .i64 s, .int .i64 st, .slice A7 ds.length c7] 26)⟩
  rw [← hW3_, ← hg5_]
  clear hW3_ hg5_ HS0
  by_cases c6_ : (lstB l0 l1 l2 h ce s st) = true
  ·
   have c6_A := Aside0.mk c6_
   clear c6_
   obtain ⟨q0_0, q0_1, q0_2, q0_3, q0_4, q0_5, q0_6, q0_7, z0_0, z0_1, z0_2, z0_3, z0_4, z0_5, z0_6, z0_7⟩ := HS2_.out.c8 0 rfl
   go_wp2_with (go_at_call 25; refine stop ?_)
   refine Stop.mk ?_
   refine (listsR_calls A0 c0 l0 A1 c1 l1 A2 c2 l2 h ce s st A7 ds.length c7 _ (Kd.C_below R0.out HS2_.out.B) (Kd.C_below R1.out HS2_.out.B) (Kd.C_below R2.out HS2_.out.B) Z0.out).mono ?_
   rintro e W7_ ⟨rfl, k9_⟩
   clear q0_0 q0_1 q0_2 q0_3 q0_4 q0_5 q0_6 q0_7 z0_0 z0_1 z0_2 z0_3 z0_4 z0_5 z0_6 z0_7
   have HS8_ := Aside0.mk (HS2_.out.below k9_)
   clear k9_ HS2_
   rw [c6_A.out]
   have hlm := lstB_len c6_A.out
   have hlh := lstB_h c6_A.out
   have HS10_ := Aside0.mk HS8_.out.drew
   obtain ⟨q0_0, q0_1, q0_2, q0_3, q0_4, q0_5, q0_6, q0_7, z0_0, z0_1, z0_2, z0_3, z0_4, z0_5, z0_6, z0_7⟩ := HS8_.out.c8 0 rfl
   go_wp2
   refine start_ (n := 15) (S := fun w' => w'.cell? ⟨g4_, 0, none⟩ = some (.slice A0 l0.length c0) ∧ w'.cell? ⟨g4_, 1, none⟩ = some (.slice A1 l1.length c1) ∧ w'.cell? ⟨g4_, 2, none⟩ = some (.slice A2 l2.length c2)) (ds := [13]) #[false, false, false, false, false, false, false, false, false, false, false, false, false, false, false] (by kernel_rfl) rfl rfl ⟨(by go_simp), (by go_simp), (by go_simp)⟩ (fun hHeld => ?_)
   refine pz 0 (some 16) (v := ?_) (a' := ?_) rfl rfl (by kernel_rfl) (fun _ _ _ h => h) (Or.inl ⟨by rfl, ?_⟩) ?_ ?_
   rotate_left
   · intro w'
     go_simp
     with_reducible rfl
   rotate_left
   · simp only [Act.put, List.setIfInBounds_toArray, List.set_cons_zero, List.set_cons_succ, i64_w, i32_w]
     rfl
   refine pz 4 (some 20) (v := ?_) (a' := ?_) rfl rfl (by kernel_rfl) (fun _ _ _ h => h) (Or.inl ⟨by rfl, ?_⟩) ?_ ?_
   rotate_left
   · intro w'
     go_simp
     with_reducible rfl
   rotate_left
   · simp only [Act.put, List.setIfInBounds_toArray, List.set_cons_zero, List.set_cons_succ, i64_w, i32_w]
     rfl
   refine pz 8 (some 24) (v := ?_) (a' := ?_) rfl rfl (by kernel_rfl) (fun _ _ _ h => h) (Or.inl ⟨by rfl, ?_⟩) ?_ ?_
   rotate_left
   · intro w'
     go_simp
     with_reducible rfl
   rotate_left
   · simp only [Act.put, List.setIfInBounds_toArray, List.set_cons_zero, List.set_cons_succ, i64_w, i32_w]
     rfl
   refine tz 1 (some 17) (v := ?_) (a' := ?_) rfl rfl (by kernel_rfl) (fun _ _ _ h => h) (Or.inl ⟨by rfl, ?_⟩) hHeld ?_ ?_
   rotate_left
   · rintro w' ⟨s0, s1, s2⟩
     go_simp
     with_reducible rfl
   rotate_left
   · simp only [Act.put, List.setIfInBounds_toArray, List.set_cons_zero, List.set_cons_succ, i64_w, i32_w]
     rfl
   refine pz 2 (some 18) (v := ?_) (a' := ?_) rfl rfl (by kernel_rfl) (fun _ _ _ h => h) (Or.inl ⟨by rfl, ?_⟩) ?_ ?_
   rotate_left
   · intro w'
     go_simp
     with_reducible rfl
   rotate_left
   · simp only [Act.put, List.setIfInBounds_toArray, List.set_cons_zero, List.set_cons_succ, i64_w, i32_w]
     rfl
   refine tz 5 (some 21) (v := ?_) (a' := ?_) rfl rfl (by kernel_rfl) (fun _ _ _ h => h) (Or.inl ⟨by rfl, ?_⟩) hHeld ?_ ?_
   rotate_left
   · rintro w' ⟨s0, s1, s2⟩
     go_simp
     with_reducible rfl
   rotate_left
   · simp only [Act.put, List.setIfInBounds_toArray, List.set_cons_zero, List.set_cons_succ, i64_w, i32_w]
     rfl
   refine pz 6 (some 22) (v := ?_) (a' := ?_) rfl rfl (by kernel_rfl) (fun _ _ _ h => h) (Or.inl ⟨by rfl, ?_⟩) ?_ ?_
   rotate_left
   · intro w'
     go_simp
     with_reducible rfl
   rotate_left
   · simp only [Act.put, List.setIfInBounds_toArray, List.set_cons_zero, List.set_cons_succ, i64_w, i32_w]
     rfl
   refine tz 9 (some 25) (v := ?_) (a' := ?_) rfl rfl (by kernel_rfl) (fun _ _ _ h => h) (Or.inl ⟨by rfl, ?_⟩) hHeld ?_ ?_
   rotate_left
   · rintro w' ⟨s0, s1, s2⟩
     go_simp
     with_reducible rfl
   rotate_left
   · simp only [Act.put, List.setIfInBounds_toArray, List.set_cons_zero, List.set_cons_succ, i64_w, i32_w]
     rfl
   refine pz 10 (some 26) (v := ?_) (a' := ?_) rfl rfl (by kernel_rfl) (fun _ _ _ h => h) (Or.inl ⟨by rfl, ?_⟩) ?_ ?_
   rotate_left
   · intro w'
     go_simp
     with_reducible rfl
   rotate_left
   · simp only [Act.put, List.setIfInBounds_toArray, List.set_cons_zero, List.set_cons_succ, i64_w, i32_w]
     rfl
   refine join_ (σ := Nat × Nat × Nat) 3 #[true, true, true, true, true, true, true, true, true, true, true, true, false, false, false] (fun z_ => [(19, .slice (some ⟨z_.1, 0, none⟩) l0.length l0.length), (23, .slice (some ⟨z_.2.1, 0, none⟩) l1.length l1.length), (27, .slice (some ⟨z_.2.2, 0, none⟩) l2.length l2.length)]) (fun z_ w' => KitW.St w w' (Box z_.2.2 (iv (List.replicate l2.length 0)) 3 :: Box z_.2.1 (iv (List.replicate l1.length 0)) 3 :: Box z_.1 (iv (List.replicate l0.length 0)) 3 :: [Box g4_ #[.slice A0 l0.length c0, .slice A1 l1.length c1, .slice A2 l2.length c2, .int .i64 h, .int .i64 ce, .int .i64 s, .int .i64 st, .slice A7 ds.length c7] 26])) ?_ ?_
   rotate_left
   · intro hCont
     refine three_ (i := 3) (j := 7) (k := 11) (Ni := some 19) (Nj := some 23) (Nk := some 27) #[true, true, true, true, true, true, true, false, true, true, true, false, false, false, false] #[true, true, true, false, true, true, true, true, true, true, true, false, false, false, false] #[true, true, true, false, true, true, true, false, true, true, true, true, false, false, false] rfl rfl rfl rfl rfl rfl (by kernel_rfl) (by decide) (by decide) (by decide) (fun K hK => ?_) (fun K hK => ?_) (fun K hK => ?_)
     · skip
       refine st_makeN_step HS10_.out 3 (by rfl) 23 (.tmp 18) (.tmp 18) (by rfl) l0.length (by rfl) (by rfl) Tryd.underlying23 (.int .i64 0) 8 (by kernel_rfl) (by omega) (by omega) ?_
       intro g_3 W_3 e_3 hS_3
       rw [made_iv] at hS_3
       refine hK.out _ _ ⟨(hS_3.cell 1 rfl 0), (hS_3.cell 1 rfl 1), (hS_3.cell 1 rfl 2)⟩ (fun hHeld => ?_)
       clear hK K
       refine norm_ (a' := ?_) ?_ ?_
       rotate_left
       · show Act.put _ (some 19) _ = _
         simp only [Act.put, List.setIfInBounds_toArray, List.set_cons_zero, List.set_cons_succ, i64_w, i32_w]
         rfl
       refine two_ (i := 7) (j := 11) (Ni := some 23) (Nj := some 27) #[true, true, true, true, true, true, true, true, true, true, true, false, false, false, false] #[true, true, true, true, true, true, true, false, true, true, true, true, false, false, false] rfl rfl rfl rfl (by kernel_rfl) (by decide) (by decide) (fun K hK => ?_) (fun K hK => ?_)
       · skip
         refine st_makeN_step hS_3 3 (by rfl) 23 (.tmp 22) (.tmp 22) (by rfl) l1.length (by rfl) (by rfl) Tryd.underlying23 (.int .i64 0) 8 (by kernel_rfl) (by omega) (by omega) ?_
         intro g_3_7 W_3_7 e_3_7 hS_3_7
         rw [made_iv] at hS_3_7
         refine hK.out _ _ ⟨(hS_3_7.cell 2 rfl 0), (hS_3_7.cell 2 rfl 1), (hS_3_7.cell 2 rfl 2)⟩ (fun hHeld => ?_)
         clear hK K
         refine norm_ (a' := ?_) ?_ ?_
         rotate_left
         · show Act.put _ (some 23) _ = _
           simp only [Act.put, List.setIfInBounds_toArray, List.set_cons_zero, List.set_cons_succ, i64_w, i32_w]
           rfl
         refine one_ (i := 11) (N := some 27) #[true, true, true, true, true, true, true, true, true, true, true, true, false, false, false] rfl rfl (by kernel_rfl) (by decide) (fun K hK => ?_)
         refine st_makeN_step hS_3_7 3 (by rfl) 23 (.tmp 26) (.tmp 26) (by rfl) l2.length (by rfl) (by rfl) Tryd.underlying23 (.int .i64 0) 8 (by kernel_rfl) (by omega) (by omega) ?_
         intro g_3_7_11 W_3_7_11 e_3_7_11 hS_3_7_11
         rw [made_iv] at hS_3_7_11
         refine hK.out _ _ ⟨(hS_3_7_11.cell 3 rfl 0), (hS_3_7_11.cell 3 rfl 1), (hS_3_7_11.cell 3 rfl 2)⟩ (fun hHeld => ?_)
         clear hK K
         refine norm_ (a' := ?_) ?_ ?_
         rotate_left
         · show Act.put _ (some 27) _ = _
           simp only [Act.put, List.setIfInBounds_toArray, List.set_cons_zero, List.set_cons_succ, i64_w, i32_w]
           rfl
         exact norm_ (by simp only [putAll, Act.put, List.setIfInBounds_toArray, List.set_cons_zero, List.set_cons_succ]) (hCont (g_3, g_3_7, g_3_7_11) _ hS_3_7_11)
       · skip
         refine st_makeN_step hS_3 3 (by rfl) 23 (.tmp 26) (.tmp 26) (by rfl) l2.length (by rfl) (by rfl) Tryd.underlying23 (.int .i64 0) 8 (by kernel_rfl) (by omega) (by omega) ?_
         intro g_3_11 W_3_11 e_3_11 hS_3_11
         rw [made_iv] at hS_3_11
         refine hK.out _ _ ⟨(hS_3_11.cell 2 rfl 0), (hS_3_11.cell 2 rfl 1), (hS_3_11.cell 2 rfl 2)⟩ (fun hHeld => ?_)
         clear hK K
         refine norm_ (a' := ?_) ?_ ?_
         rotate_left
         · show Act.put _ (some 27) _ = _
           simp only [Act.put, List.setIfInBounds_toArray, List.set_cons_zero, List.set_cons_succ, i64_w, i32_w]
           rfl
         refine one_ (i := 7) (N := some 23) #[true, true, true, true, true, true, true, true, true, true, true, true, false, false, false] rfl rfl (by kernel_rfl) (by decide) (fun K hK => ?_)
         refine st_makeN_step hS_3_11 3 (by rfl) 23 (.tmp 22) (.tmp 22) (by rfl) l1.length (by rfl) (by rfl) Tryd.underlying23 (.int .i64 0) 8 (by kernel_rfl) (by omega) (by omega) ?_
         intro g_3_11_7 W_3_11_7 e_3_11_7 hS_3_11_7
         rw [made_iv] at hS_3_11_7
         refine hK.out _ _ ⟨(hS_3_11_7.cell 3 rfl 0), (hS_3_11_7.cell 3 rfl 1), (hS_3_11_7.cell 3 rfl 2)⟩ (fun hHeld => ?_)
         clear hK K
         refine norm_ (a' := ?_) ?_ ?_
         rotate_left
         · show Act.put _ (some 23) _ = _
           simp only [Act.put, List.setIfInBounds_toArray, List.set_cons_zero, List.set_cons_succ, i64_w, i32_w]
           rfl
         exact norm_ (by simp only [putAll, Act.put, List.setIfInBounds_toArray, List.set_cons_zero, List.set_cons_succ]) (hCont (g_3, g_3_11_7, g_3_11) _ (p102 hS_3_11_7))
     · skip
       refine st_makeN_step HS10_.out 3 (by rfl) 23 (.tmp 22) (.tmp 22) (by rfl) l1.length (by rfl) (by rfl) Tryd.underlying23 (.int .i64 0) 8 (by kernel_rfl) (by omega) (by omega) ?_
       intro g_7 W_7 e_7 hS_7
       rw [made_iv] at hS_7
       refine hK.out _ _ ⟨(hS_7.cell 1 rfl 0), (hS_7.cell 1 rfl 1), (hS_7.cell 1 rfl 2)⟩ (fun hHeld => ?_)
       clear hK K
       refine norm_ (a' := ?_) ?_ ?_
       rotate_left
       · show Act.put _ (some 23) _ = _
         simp only [Act.put, List.setIfInBounds_toArray, List.set_cons_zero, List.set_cons_succ, i64_w, i32_w]
         rfl
       refine two_ (i := 3) (j := 11) (Ni := some 19) (Nj := some 27) #[true, true, true, true, true, true, true, true, true, true, true, false, false, false, false] #[true, true, true, false, true, true, true, true, true, true, true, true, false, false, false] rfl rfl rfl rfl (by kernel_rfl) (by decide) (by decide) (fun K hK => ?_) (fun K hK => ?_)
       · skip
         refine st_makeN_step hS_7 3 (by rfl) 23 (.tmp 18) (.tmp 18) (by rfl) l0.length (by rfl) (by rfl) Tryd.underlying23 (.int .i64 0) 8 (by kernel_rfl) (by omega) (by omega) ?_
         intro g_7_3 W_7_3 e_7_3 hS_7_3
         rw [made_iv] at hS_7_3
         refine hK.out _ _ ⟨(hS_7_3.cell 2 rfl 0), (hS_7_3.cell 2 rfl 1), (hS_7_3.cell 2 rfl 2)⟩ (fun hHeld => ?_)
         clear hK K
         refine norm_ (a' := ?_) ?_ ?_
         rotate_left
         · show Act.put _ (some 19) _ = _
           simp only [Act.put, List.setIfInBounds_toArray, List.set_cons_zero, List.set_cons_succ, i64_w, i32_w]
           rfl
         refine one_ (i := 11) (N := some 27) #[true, true, true, true, true, true, true, true, true, true, true, true, false, false, false] rfl rfl (by kernel_rfl) (by decide) (fun K hK => ?_)
         refine st_makeN_step hS_7_3 3 (by rfl) 23 (.tmp 26) (.tmp 26) (by rfl) l2.length (by rfl) (by rfl) Tryd.underlying23 (.int .i64 0) 8 (by kernel_rfl) (by omega) (by omega) ?_
         intro g_7_3_11 W_7_3_11 e_7_3_11 hS_7_3_11
         rw [made_iv] at hS_7_3_11
         refine hK.out _ _ ⟨(hS_7_3_11.cell 3 rfl 0), (hS_7_3_11.cell 3 rfl 1), (hS_7_3_11.cell 3 rfl 2)⟩ (fun hHeld => ?_)
         clear hK K
         refine norm_ (a' := ?_) ?_ ?_
         rotate_left
         · show Act.put _ (some 27) _ = _
           simp only [Act.put, List.setIfInBounds_toArray, List.set_cons_zero, List.set_cons_succ, i64_w, i32_w]
           rfl
         exact norm_ (by simp only [putAll, Act.put, List.setIfInBounds_toArray, List.set_cons_zero, List.set_cons_succ]) (hCont (g_7_3, g_7, g_7_3_11) _ (p021 hS_7_3_11))
       · skip
         refine st_makeN_step hS_7 3 (by rfl) 23 (.tmp 26) (.tmp 26) (by rfl) l2.length (by rfl) (by rfl) Tryd.underlying23 (.int .i64 0) 8 (by kernel_rfl) (by omega) (by omega) ?_
         intro g_7_11 W_7_11 e_7_11 hS_7_11
         rw [made_iv] at hS_7_11
         refine hK.out _ _ ⟨(hS_7_11.cell 2 rfl 0), (hS_7_11.cell 2 rfl 1), (hS_7_11.cell 2 rfl 2)⟩ (fun hHeld => ?_)
         clear hK K
         refine norm_ (a' := ?_) ?_ ?_
         rotate_left
         · show Act.put _ (some 27) _ = _
           simp only [Act.put, List.setIfInBounds_toArray, List.set_cons_zero, List.set_cons_succ, i64_w, i32_w]
           rfl
         refine one_ (i := 3) (N := some 19) #[true, true, true, true, true, true, true, true, true, true, true, true, false, false, false] rfl rfl (by kernel_rfl) (by decide) (fun K hK => ?_)
         refine st_makeN_step hS_7_11 3 (by rfl) 23 (.tmp 18) (.tmp 18) (by rfl) l0.length (by rfl) (by rfl) Tryd.underlying23 (.int .i64 0) 8 (by kernel_rfl) (by omega) (by omega) ?_
         intro g_7_11_3 W_7_11_3 e_7_11_3 hS_7_11_3
         rw [made_iv] at hS_7_11_3
         refine hK.out _ _ ⟨(hS_7_11_3.cell 3 rfl 0), (hS_7_11_3.cell 3 rfl 1), (hS_7_11_3.cell 3 rfl 2)⟩ (fun hHeld => ?_)
         clear hK K
         refine norm_ (a' := ?_) ?_ ?_
         rotate_left
         · show Act.put _ (some 19) _ = _
           simp only [Act.put, List.setIfInBounds_toArray, List.set_cons_zero, List.set_cons_succ, i64_w, i32_w]
           rfl
         exact norm_ (by simp only [putAll, Act.put, List.setIfInBounds_toArray, List.set_cons_zero, List.set_cons_succ]) (hCont (g_7_11_3, g_7, g_7_11) _ (p120 hS_7_11_3))
     · skip
       refine st_makeN_step HS10_.out 3 (by rfl) 23 (.tmp 26) (.tmp 26) (by rfl) l2.length (by rfl) (by rfl) Tryd.underlying23 (.int .i64 0) 8 (by kernel_rfl) (by omega) (by omega) ?_
       intro g_11 W_11 e_11 hS_11
       rw [made_iv] at hS_11
       refine hK.out _ _ ⟨(hS_11.cell 1 rfl 0), (hS_11.cell 1 rfl 1), (hS_11.cell 1 rfl 2)⟩ (fun hHeld => ?_)
       clear hK K
       refine norm_ (a' := ?_) ?_ ?_
       rotate_left
       · show Act.put _ (some 27) _ = _
         simp only [Act.put, List.setIfInBounds_toArray, List.set_cons_zero, List.set_cons_succ, i64_w, i32_w]
         rfl
       refine two_ (i := 3) (j := 7) (Ni := some 19) (Nj := some 23) #[true, true, true, true, true, true, true, false, true, true, true, true, false, false, false] #[true, true, true, false, true, true, true, true, true, true, true, true, false, false, false] rfl rfl rfl rfl (by kernel_rfl) (by decide) (by decide) (fun K hK => ?_) (fun K hK => ?_)
       · skip
         refine st_makeN_step hS_11 3 (by rfl) 23 (.tmp 18) (.tmp 18) (by rfl) l0.length (by rfl) (by rfl) Tryd.underlying23 (.int .i64 0) 8 (by kernel_rfl) (by omega) (by omega) ?_
         intro g_11_3 W_11_3 e_11_3 hS_11_3
         rw [made_iv] at hS_11_3
         refine hK.out _ _ ⟨(hS_11_3.cell 2 rfl 0), (hS_11_3.cell 2 rfl 1), (hS_11_3.cell 2 rfl 2)⟩ (fun hHeld => ?_)
         clear hK K
         refine norm_ (a' := ?_) ?_ ?_
         rotate_left
         · show Act.put _ (some 19) _ = _
           simp only [Act.put, List.setIfInBounds_toArray, List.set_cons_zero, List.set_cons_succ, i64_w, i32_w]
           rfl
         refine one_ (i := 7) (N := some 23) #[true, true, true, true, true, true, true, true, true, true, true, true, false, false, false] rfl rfl (by kernel_rfl) (by decide) (fun K hK => ?_)
         refine st_makeN_step hS_11_3 3 (by rfl) 23 (.tmp 22) (.tmp 22) (by rfl) l1.length (by rfl) (by rfl) Tryd.underlying23 (.int .i64 0) 8 (by kernel_rfl) (by omega) (by omega) ?_
         intro g_11_3_7 W_11_3_7 e_11_3_7 hS_11_3_7
         rw [made_iv] at hS_11_3_7
         refine hK.out _ _ ⟨(hS_11_3_7.cell 3 rfl 0), (hS_11_3_7.cell 3 rfl 1), (hS_11_3_7.cell 3 rfl 2)⟩ (fun hHeld => ?_)
         clear hK K
         refine norm_ (a' := ?_) ?_ ?_
         rotate_left
         · show Act.put _ (some 23) _ = _
           simp only [Act.put, List.setIfInBounds_toArray, List.set_cons_zero, List.set_cons_succ, i64_w, i32_w]
           rfl
         exact norm_ (by simp only [putAll, Act.put, List.setIfInBounds_toArray, List.set_cons_zero, List.set_cons_succ]) (hCont (g_11_3, g_11_3_7, g_11) _ (p201 hS_11_3_7))
       · skip
         refine st_makeN_step hS_11 3 (by rfl) 23 (.tmp 22) (.tmp 22) (by rfl) l1.length (by rfl) (by rfl) Tryd.underlying23 (.int .i64 0) 8 (by kernel_rfl) (by omega) (by omega) ?_
         intro g_11_7 W_11_7 e_11_7 hS_11_7
         rw [made_iv] at hS_11_7
         refine hK.out _ _ ⟨(hS_11_7.cell 2 rfl 0), (hS_11_7.cell 2 rfl 1), (hS_11_7.cell 2 rfl 2)⟩ (fun hHeld => ?_)
         clear hK K
         refine norm_ (a' := ?_) ?_ ?_
         rotate_left
         · show Act.put _ (some 23) _ = _
           simp only [Act.put, List.setIfInBounds_toArray, List.set_cons_zero, List.set_cons_succ, i64_w, i32_w]
           rfl
         refine one_ (i := 3) (N := some 19) #[true, true, true, true, true, true, true, true, true, true, true, true, false, false, false] rfl rfl (by kernel_rfl) (by decide) (fun K hK => ?_)
         refine st_makeN_step hS_11_7 3 (by rfl) 23 (.tmp 18) (.tmp 18) (by rfl) l0.length (by rfl) (by rfl) Tryd.underlying23 (.int .i64 0) 8 (by kernel_rfl) (by omega) (by omega) ?_
         intro g_11_7_3 W_11_7_3 e_11_7_3 hS_11_7_3
         rw [made_iv] at hS_11_7_3
         refine hK.out _ _ ⟨(hS_11_7_3.cell 3 rfl 0), (hS_11_7_3.cell 3 rfl 1), (hS_11_7_3.cell 3 rfl 2)⟩ (fun hHeld => ?_)
         clear hK K
         refine norm_ (a' := ?_) ?_ ?_
         rotate_left
         · show Act.put _ (some 19) _ = _
           simp only [Act.put, List.setIfInBounds_toArray, List.set_cons_zero, List.set_cons_succ, i64_w, i32_w]
           rfl
         exact norm_ (by simp only [putAll, Act.put, List.setIfInBounds_toArray, List.set_cons_zero, List.set_cons_succ]) (hCont (g_11_7_3, g_11_7, g_11) _ (p210 hS_11_7_3))
   rintro ⟨g12_, g13_, g14_⟩ W11_ hF_
   have hHeld : W11_.cell? ⟨g4_, 0, none⟩ = some (.slice A0 l0.length c0) ∧ W11_.cell? ⟨g4_, 1, none⟩ = some (.slice A1 l1.length c1) ∧ W11_.cell? ⟨g4_, 2, none⟩ = some (.slice A2 l2.length c2) := ⟨hF_.cell 3 rfl 0, hF_.cell 3 rfl 1, hF_.cell 3 rfl 2⟩
   have HS15_ := Aside0.mk hF_
   clear hF_
   refine norm_ (a' := ?_) ?_ ?_
   rotate_left
   · simp only [putAll, Act.put, List.setIfInBounds_toArray, List.set_cons_zero, List.set_cons_succ]
     rfl
   refine pz 12 (some 28) (v := ?_) (a' := ?_) rfl rfl (by kernel_rfl) (fun _ _ _ h => h) (Or.inl ⟨by rfl, ?_⟩) ?_ ?_
   rotate_left
   · intro w'
     go_simp
     with_reducible rfl
   rotate_left
   · simp only [Act.put, List.setIfInBounds_toArray, List.set_cons_zero, List.set_cons_succ, i64_w, i32_w]
     rfl
   refine last_ (i := 13) (N := some 29) #[true, true, true, true, true, true, true, true, true, true, true, true, true, true, false] rfl rfl (by kernel_rfl) (by decide) (fun K hK => ?_)
   refine value_ (w1 := ?_) (v := ?_) (by rfl) rfl ?_ ?_
   rotate_left 2
   · go_simp
     constructor
     · rfl
     · rfl
   refine hK.out _ _ ?_
   clear hK K
   refine norm_ (a' := ?_) ?_ ?_
   rotate_left
   · show Act.put _ (some 29) _ = _
     simp only [Act.put, List.setIfInBounds_toArray, List.set_cons_zero, List.set_cons_succ, i64_w, i32_w]
     rfl
   refine pz 14 (some 4) (v := ?_) (a' := ?_) rfl rfl (by kernel_rfl) (fun _ _ _ h => h) (Or.inl ⟨by rfl, ?_⟩) ?_ ?_
   rotate_left
   · intro w'
     go_simp
     with_reducible rfl
   rotate_left
   · simp only [Act.put, List.setIfInBounds_toArray, List.set_cons_zero, List.set_cons_succ, i64_w, i32_w]
     rfl
   refine done_ (by kernel_rfl) ?_
   clear q0_0 q0_1 q0_2 q0_3 q0_4 q0_5 q0_6 q0_7 z0_0 z0_1 z0_2 z0_3 z0_4 z0_5 z0_6 z0_7
   clear HS10_
   clear HS8_
   obtain ⟨W16_, hW18_⟩ : ∃ W, W = (W11_.alloc (.cells #[.slice (some ⟨g12_, 0, none⟩) l0.length l0.length, .slice (some ⟨g13_, 0, none⟩) l1.length l1.length, .slice (some ⟨g14_, 0, none⟩) l2.length l2.length] 66 (0, 0))) := ⟨_, rfl⟩
   obtain ⟨g19_, hg20_⟩ : ∃ g, g = W11_.heap.size := ⟨_, rfl⟩
   have HS17_ : Aside0 (KitW.St w W16_ [Box g19_ #[.slice (some ⟨g12_, 0, none⟩) l0.length l0.length, .slice (some ⟨g13_, 0, none⟩) l1.length l1.length, .slice (some ⟨g14_, 0, none⟩) l2.length l2.length] 66, Box g14_ (iv (List.replicate l2.length 0)) 3, Box g13_ (iv (List.replicate l1.length 0)) 3, Box g12_ (iv (List.replicate l0.length 0)) 3, Box g4_ #[.slice A0 l0.length c0, .slice A1 l1.length c1, .slice A2 l2.length c2, .int .i64 h, .int .i64 ce, .int .i64 s, .int .i64 st, .slice A7 ds.length c7] 26]) := by rw [hW18_, hg20_]; exact ⟨by simpa using (HS15_.out.allocF #[.slice (some ⟨g12_, 0, none⟩) l0.length l0.length, .slice (some ⟨g13_, 0, none⟩) l1.length l1.length, .slice (some ⟨g14_, 0, none⟩) l2.length l2.length] 66)⟩
   rw [← hW18_, ← hg20_]
   clear hW18_ hg20_ HS15_
   go_wp2
   go_loopg [6, 5, 3, 7, 8] ds.length (fun g v nv _ _ _ W => ∃ (i n last : Int) (d0 d1 d2 : List Int), v = .int .i64 i ∧ nv = .int .i64 n ∧ 0 ≤ i ∧ (g : Int) + i = (ds.length : Int) ∧ 0 ≤ n ∧ n ≤ i * 140737488351232 ∧ i ≤ last + 1 ∧ last ≤ 3660 ∧ -1 ≤ last ∧ d0.length = l0.length ∧ d1.length = l1.length ∧ d2.length = l2.length ∧ Aside0 ((i = 0 → last = -1) ∧ (0 < i → last = (rd_T54 ds (i - 1)).f0)) ∧ Aside0 (cnR l0.length l1.length l2.length h ce s (ds.drop i.toNat) last n d0 d1 d2 = cnR l0.length l1.length l2.length h ce s ds (-1) 0 (List.replicate l0.length 0) (List.replicate l1.length 0) (List.replicate l2.length 0)) ∧ Aside0 (St w W [Box g19_ #[.slice (some ⟨g12_, 0, none⟩) l0.length l0.length, .slice (some ⟨g13_, 0, none⟩) l1.length l1.length, .slice (some ⟨g14_, 0, none⟩) l2.length l2.length] 66, Box g14_ (iv d2) 3, Box g13_ (iv d1) 3, Box g12_ (iv d0) 3, Box g4_ #[.slice A0 l0.length c0, .slice A1 l1.length c1, .slice A2 l2.length c2, .int .i64 h, .int .i64 ce, .int .i64 s, .int .i64 st, .slice A7 ds.length c7] 26]))
   case atStart => exact ⟨0, 0, -1, _, _, _, rfl, rfl, by omega, by omega, by omega, by omega, by omega, by omega, by omega, List.length_replicate, List.length_replicate, List.length_replicate, ⟨fun _ => rfl, fun h_ => by omega⟩, ⟨rfl⟩, HS17_⟩
   case round =>
    revert wr gk
    intro gk21_ wr22_ hrel hK_
    obtain ⟨i, n, last, d0, d1, d2, rfl, rfl, hi, hg, hn0, hn1, hil, hl1, hl0, hd0, hd1, hd2, HL, HI, HSr⟩ := hrel
    by_cases c23_ : i < ((ds.length : Nat) : Int)
    ·
     have c23_A := Aside0.mk c23_
     have c23_1 : decide (i < ((ds.length : Nat) : Int)) = true := by simpa using c23_
     obtain ⟨a24_, rfl⟩ := C_some R7.out (by omega)
     have E26_0 : 0 ≤ i := by omega
     have E26_1 : i < (ds.length : Int) := by omega
     obtain ⟨x25_, hx25_⟩ : ∃ x, x = rd_T54 ds i := ⟨_, rfl⟩
     obtain ⟨E26_ad, a27_, c28_, E26_e, E26_G0, E26_G1, E26_le, E26_R⟩ := at_T54 R7.out i E26_0 E26_1
     cases E26_e
     rw [← hx25_] at E26_G0 E26_G1 E26_le E26_R
     have E26_F0 : Aside0 (w.cell? (a24_.add ((i).toNat * 2)) = some (.int .i64 x25_.f0)) := ⟨E26_G0⟩
     have E26_F1 : Aside0 (w.cell? ⟨(a24_.add ((i).toNat * 2)).block, (a24_.add ((i).toNat * 2)).off + 1, none⟩ = some (.slice a27_ x25_.f1.length c28_)) := ⟨E26_G1⟩
     have E26_RA := Aside0.mk E26_R
     have Hx25_ := Aside0.mk hx25_
     clear hx25_ E26_G0 E26_G1 E26_R
     obtain ⟨q4_0, q4_1, q4_2, q4_3, q4_4, q4_5, q4_6, q4_7, z4_0, z4_1, z4_2, z4_3, z4_4, z4_5, z4_6, z4_7⟩ := HSr.out.c8 4 rfl
     have qe0 : wr22_.cell? (a24_.add ((i).toNat * 2)) = some (.int .i64 x25_.f0) := pw_cell_below HSr.out.B E26_F0.out
     have qe1 : wr22_.cell? ⟨(a24_.add ((i).toNat * 2)).block, (a24_.add ((i).toNat * 2)).off + 1, none⟩ = some (.slice a27_ x25_.f1.length c28_) := pw_cell_below HSr.out.B E26_F1.out
     go_upto_region 10 with (fail)
     clear q4_0 q4_1 q4_2 q4_3 q4_4 q4_5 q4_6 q4_7 z4_0 z4_1 z4_2 z4_3 z4_4 z4_5 z4_6 z4_7 qe0 qe1
     obtain ⟨W29_, hW31_⟩ : ∃ W, W = (wr22_.alloc (.cells #[.int .i64 x25_.f0, .slice a27_ x25_.f1.length c28_] 54 (0, 0))) := ⟨_, rfl⟩
     obtain ⟨g32_, hg33_⟩ : ∃ g, g = wr22_.heap.size := ⟨_, rfl⟩
     have HS30_ : Aside0 (KitW.St w W29_ [Box g32_ #[.int .i64 x25_.f0, .slice a27_ x25_.f1.length c28_] 54, Box g19_ #[.slice (some ⟨g12_, 0, none⟩) l0.length l0.length, .slice (some ⟨g13_, 0, none⟩) l1.length l1.length, .slice (some ⟨g14_, 0, none⟩) l2.length l2.length] 66, Box g14_ (iv d2) 3, Box g13_ (iv d1) 3, Box g12_ (iv d0) 3, Box g4_ #[.slice A0 l0.length c0, .slice A1 l1.length c1, .slice A2 l2.length c2, .int .i64 h, .int .i64 ce, .int .i64 s, .int .i64 st, .slice (some a24_) ds.length c7] 26]) := by rw [hW31_, hg33_]; exact ⟨by simpa using (HSr.out.allocF #[.int .i64 x25_.f0, .slice a27_ x25_.f1.length c28_] 54)⟩
     rw [← hW31_, ← hg33_]
     clear hW31_ hg33_ HSr
     have hxb := HB.out _ (rd54_mem hi (by omega) Hx25_.out)
     by_cases c34_ : (codeC l0.length l1.length l2.length ce s x25_.f1) = true
     ·
      have c34_A := Aside0.mk c34_
      clear c34_
      obtain ⟨q0_0, q0_1, z0_0, z0_1⟩ := HS30_.out.c2 0 rfl
      obtain ⟨q5_0, q5_1, q5_2, q5_3, q5_4, q5_5, q5_6, q5_7, z5_0, z5_1, z5_2, z5_3, z5_4, z5_5, z5_6, z5_7⟩ := HS30_.out.c8 5 rfl
      have qe0 : W29_.cell? (a24_.add ((i).toNat * 2)) = some (.int .i64 x25_.f0) := pw_cell_below HS30_.out.B E26_F0.out
      have qe1 : W29_.cell? ⟨(a24_.add ((i).toNat * 2)).block, (a24_.add ((i).toNat * 2)).off + 1, none⟩ = some (.slice a27_ x25_.f1.length c28_) := pw_cell_below HS30_.out.B E26_F1.out
      go_wp2_with (go_at_call 26; refine stop ?_)
      refine Stop.mk ?_
      clear q0_0 q0_1 z0_0 z0_1 q5_0 q5_1 q5_2 q5_3 q5_4 q5_5 q5_6 q5_7 z5_0 z5_1 z5_2 z5_3 z5_4 z5_5 z5_6 z5_7 qe0 qe1
      have HS35_ : Aside0 (KitW.St w W29_ [Box g19_ #[.slice (some ⟨g12_, 0, none⟩) l0.length l0.length, .slice (some ⟨g13_, 0, none⟩) l1.length l1.length, .slice (some ⟨g14_, 0, none⟩) l2.length l2.length] 66, Box g14_ (iv d2) 3, Box g13_ (iv d1) 3, Box g12_ (iv d0) 3, Box g32_ #[.int .i64 x25_.f0, .slice a27_ x25_.f1.length c28_] 54, Box g4_ #[.slice A0 l0.length c0, .slice A1 l1.length c1, .slice A2 l2.length c2, .int .i64 h, .int .i64 ce, .int .i64 s, .int .i64 st, .slice (some a24_) ds.length c7] 26]) := ⟨St.rot [Box g32_ #[.int .i64 x25_.f0, .slice a27_ x25_.f1.length c28_] 54] [Box g19_ #[.slice (some ⟨g12_, 0, none⟩) l0.length l0.length, .slice (some ⟨g13_, 0, none⟩) l1.length l1.length, .slice (some ⟨g14_, 0, none⟩) l2.length l2.length] 66, Box g14_ (iv d2) 3, Box g13_ (iv d1) 3, Box g12_ (iv d0) 3] HS30_.out⟩
      clear HS30_
      refine (code_calls _ _ _ _ _ _ _ _ _ _ _ _ _ _ _ _ _ _ _ _ _ _ _ _ _ _ _ _ _ hd0 hd1 hd2 LR.out E26_RA.out HS35_.out).mono ?_
      rintro e W36_ ⟨D0, D1, D2, hD0, hD1, hD2, rfl, hDU, k38_⟩
      have HS37_ : Aside0 (KitW.St w W36_ [Box g19_ #[.slice (some ⟨g12_, 0, none⟩) l0.length l0.length, .slice (some ⟨g13_, 0, none⟩) l1.length l1.length, .slice (some ⟨g14_, 0, none⟩) l2.length l2.length] 66, Box g14_ (iv D2) 3, Box g13_ (iv D1) 3, Box g12_ (iv D0) 3, Box g32_ #[.int .i64 x25_.f0, .slice a27_ x25_.f1.length c28_] 54, Box g4_ #[.slice A0 l0.length c0, .slice A1 l1.length c1, .slice A2 l2.length c2, .int .i64 h, .int .i64 ce, .int .i64 s, .int .i64 st, .slice (some a24_) ds.length c7] 26]) := ⟨k38_⟩
      clear k38_ HS35_
      rw [c34_A.out]
      have HDU := Aside0.mk hDU
      clear hDU
      by_cases c39_ : (wi x25_.f0 h) = true
      ·
       have c39_A := Aside0.mk c39_
       clear c39_
       obtain ⟨q4_0, q4_1, z4_0, z4_1⟩ := HS37_.out.c2 4 rfl
       obtain ⟨q5_0, q5_1, q5_2, q5_3, q5_4, q5_5, q5_6, q5_7, z5_0, z5_1, z5_2, z5_3, z5_4, z5_5, z5_6, z5_7⟩ := HS37_.out.c8 5 rfl
       have qe0 : W36_.cell? (a24_.add ((i).toNat * 2)) = some (.int .i64 x25_.f0) := pw_cell_below HS37_.out.B E26_F0.out
       have qe1 : W36_.cell? ⟨(a24_.add ((i).toNat * 2)).block, (a24_.add ((i).toNat * 2)).off + 1, none⟩ = some (.slice a27_ x25_.f1.length c28_) := pw_cell_below HS37_.out.B E26_F1.out
       go_wp2_with (go_at_call 27; refine stop ?_)
       refine Stop.mk ?_
       refine (wiR_calls x25_.f0 h _).mono ?_
       rintro e W ⟨rfl, hw_⟩
       rw [hw_]
       clear hw_ W
       rw [c39_A.out]
       by_cases c40_ : 0 < i
       ·
        have c40_A := Aside0.mk c40_
        have c40_1 : decide (0 < i) = true := by simpa using c40_
        obtain ⟨p41_, h42_⟩ : ∃ p : Int, wrap64 (i - 1) = p := ⟨_, rfl⟩
        have h42_E : Aside0 (p41_ = i - 1) := ⟨by rw [← h42_]; unfold wrap64; omega⟩
        have E44_0 : 0 ≤ p41_ := by have := h42_E.out; omega
        have E44_1 : p41_ < (ds.length : Int) := by have := h42_E.out; omega
        obtain ⟨x43_, hx43_⟩ : ∃ x, x = rd_T54 ds p41_ := ⟨_, rfl⟩
        obtain ⟨E44_ad, a45_, c46_, E44_e, E44_G0, E44_G1, E44_le, E44_R⟩ := at_T54 R7.out p41_ E44_0 E44_1
        cases E44_e
        rw [← hx43_] at E44_G0 E44_G1 E44_le E44_R
        have E44_F0 : Aside0 (w.cell? (a24_.add ((p41_).toNat * 2)) = some (.int .i64 x43_.f0)) := ⟨E44_G0⟩
        have E44_F1 : Aside0 (w.cell? ⟨(a24_.add ((p41_).toNat * 2)).block, (a24_.add ((p41_).toNat * 2)).off + 1, none⟩ = some (.slice a45_ x43_.f1.length c46_)) := ⟨E44_G1⟩
        have E44_RA := Aside0.mk E44_R
        have Hx43_ := Aside0.mk hx43_
        clear hx43_ E44_G0 E44_G1 E44_R
        clear q4_0 q4_1 z4_0 z4_1 q5_0 q5_1 q5_2 q5_3 q5_4 q5_5 q5_6 q5_7 z5_0 z5_1 z5_2 z5_3 z5_4 z5_5 z5_6 z5_7 qe0 qe1
        by_cases c47_ : x25_.f0 ≤ x43_.f0
        ·
         have c47_A := Aside0.mk c47_
         have c47_1 : decide (x25_.f0 ≤ x43_.f0) = true := by simpa using c47_
         have HS48_ := Aside0.mk HS37_.out.drew
         obtain ⟨q4_0, q4_1, z4_0, z4_1⟩ := HS37_.out.c2 4 rfl
         obtain ⟨q5_0, q5_1, q5_2, q5_3, q5_4, q5_5, q5_6, q5_7, z5_0, z5_1, z5_2, z5_3, z5_4, z5_5, z5_6, z5_7⟩ := HS37_.out.c8 5 rfl
         have qe0 : W36_.cell? (a24_.add ((i).toNat * 2)) = some (.int .i64 x25_.f0) := pw_cell_below HS37_.out.B E26_F0.out
         have qe1 : W36_.cell? ⟨(a24_.add ((i).toNat * 2)).block, (a24_.add ((i).toNat * 2)).off + 1, none⟩ = some (.slice a27_ x25_.f1.length c28_) := pw_cell_below HS37_.out.B E26_F1.out
         have qe2 : W36_.cell? (a24_.add ((p41_).toNat * 2)) = some (.int .i64 x43_.f0) := pw_cell_below HS37_.out.B E44_F0.out
         have qe3 : W36_.cell? ⟨(a24_.add ((p41_).toNat * 2)).block, (a24_.add ((p41_).toNat * 2)).off + 1, none⟩ = some (.slice a45_ x43_.f1.length c46_) := pw_cell_below HS37_.out.B E44_F1.out
         go_wp2
         refine start_ (n := 22) (S := fun w' => w'.cell? ⟨g4_, 7, none⟩ = some (.slice (some a24_) ds.length c7) ∧ w'.cell? (a24_.add ((p41_).toNat * 2)) = some (.int .i64 x43_.f0) ∧ w'.cell? ⟨g32_, 0, none⟩ = some (.int .i64 x25_.f0)) (ds := []) #[false, false, false, false, false, false, false, false, false, false, false, false, false, false, false, false, false, false, false, false, false, false] (by kernel_rfl) rfl rfl ⟨(by go_simp), (by go_simp), (by go_simp)⟩ (fun hHeld => ?_)
         refine pz 0 (some 52) (v := ?_) (a' := ?_) rfl rfl (by kernel_rfl) (fun _ _ _ h => h) (Or.inl ⟨by rfl, ?_⟩) ?_ ?_
         rotate_left
         · intro w'
           go_simp
           with_reducible rfl
         rotate_left
         · simp only [Act.put, List.setIfInBounds_toArray, List.set_cons_zero, List.set_cons_succ, i64_w, i32_w]
           rfl
         refine pz 1 (some 53) (v := ?_) (a' := ?_) rfl rfl (by kernel_rfl) (fun _ _ _ h => h) (Or.inl ⟨by rfl, ?_⟩) ?_ ?_
         rotate_left
         · intro w'
           go_simp
           with_reducible rfl
         rotate_left
         · simp only [Act.put, List.setIfInBounds_toArray, List.set_cons_zero, List.set_cons_succ, i64_w, i32_w]
           rfl
         refine pz 2 (some 54) (v := ?_) (a' := ?_) rfl rfl (by kernel_rfl) (fun _ _ _ h => h) (Or.inl ⟨by rfl, ?_⟩) ?_ ?_
         rotate_left
         · intro w'
           go_simp
           with_reducible rfl
         rotate_left
         · simp only [Act.put, List.setIfInBounds_toArray, List.set_cons_zero, List.set_cons_succ, i64_w, i32_w]
           rfl
         refine pz 3 (some 55) (v := ?_) (a' := ?_) rfl rfl (by kernel_rfl) (fun _ _ _ h => h) (Or.inl ⟨by rfl, ?_⟩) ?_ ?_
         rotate_left
         · intro w'
           go_simp
           with_reducible rfl
         rotate_left
         · simp only [Act.put, List.setIfInBounds_toArray, List.set_cons_zero, List.set_cons_succ, i64_w, i32_w]
           rfl
         refine pz 4 (some 56) (v := ?_) (a' := ?_) rfl rfl (by kernel_rfl) (fun _ _ _ h => h) (Or.inl ⟨by rfl, ?_⟩) ?_ ?_
         rotate_left
         · intro w'
           go_simp
           with_reducible rfl
         rotate_left
         · simp only [Act.put, List.setIfInBounds_toArray, List.set_cons_zero, List.set_cons_succ, i64_w, i32_w]
           rfl
         refine pz 5 (some 57) (v := ?_) (a' := ?_) rfl rfl (by kernel_rfl) (fun _ _ _ h => h) (Or.inl ⟨by rfl, ?_⟩) ?_ ?_
         rotate_left
         · intro w'
           go_simp
           with_reducible rfl
         rotate_left
         · simp only [Act.put, List.setIfInBounds_toArray, List.set_cons_zero, List.set_cons_succ, i64_w, i32_w]
           rfl
         refine pz 6 (some 58) (v := ?_) (a' := ?_) rfl rfl (by kernel_rfl) (fun _ _ _ h => h) (Or.inl ⟨by rfl, ?_⟩) ?_ ?_
         rotate_left
         · intro w'
           go_simp
           with_reducible rfl
         rotate_left
         · simp only [Act.put, List.setIfInBounds_toArray, List.set_cons_zero, List.set_cons_succ, i64_w, i32_w]
           rfl
         refine pz 7 (some 59) (v := ?_) (a' := ?_) rfl rfl (by kernel_rfl) (fun _ _ _ h => h) (Or.inl ⟨by rfl, ?_⟩) ?_ ?_
         rotate_left
         · intro w'
           go_simp
           with_reducible rfl
         rotate_left
         · simp only [Act.put, List.setIfInBounds_toArray, List.set_cons_zero, List.set_cons_succ, i64_w, i32_w]
           rfl
         refine pz 8 (some 60) (v := ?_) (a' := ?_) rfl rfl (by kernel_rfl) (fun _ _ _ h => h) (Or.inl ⟨by rfl, ?_⟩) ?_ ?_
         rotate_left
         · intro w'
           go_simp
           with_reducible rfl
         rotate_left
         · simp only [Act.put, List.setIfInBounds_toArray, List.set_cons_zero, List.set_cons_succ, i64_w, i32_w]
           rfl
         refine pz 9 (some 61) (v := ?_) (a' := ?_) rfl rfl (by kernel_rfl) (fun _ _ _ h => h) (Or.inl ⟨by rfl, ?_⟩) ?_ ?_
         rotate_left
         · intro w'
           go_simp
           with_reducible rfl
         rotate_left
         · simp only [Act.put, List.setIfInBounds_toArray, List.set_cons_zero, List.set_cons_succ, i64_w, i32_w]
           rfl
         refine pz 10 (some 62) (v := ?_) (a' := ?_) rfl rfl (by kernel_rfl) (fun _ _ _ h => h) (Or.inl ⟨by rfl, ?_⟩) ?_ ?_
         rotate_left
         · intro w'
           go_simp
           with_reducible rfl
         rotate_left
         · simp only [Act.put, List.setIfInBounds_toArray, List.set_cons_zero, List.set_cons_succ, i64_w, i32_w]
           rfl
         refine pz 12 (some 64) (v := ?_) (a' := ?_) rfl rfl (by kernel_rfl) (fun _ _ _ h => h) (Or.inl ⟨by rfl, ?_⟩) ?_ ?_
         rotate_left
         · intro w'
           go_simp
           with_reducible rfl
         rotate_left
         · simp only [Act.put, List.setIfInBounds_toArray, List.set_cons_zero, List.set_cons_succ, i64_w, i32_w]
           rfl
         refine pz 13 (some 65) (v := ?_) (a' := ?_) rfl rfl (by kernel_rfl) (fun _ _ _ h => h) (Or.inl ⟨by rfl, ?_⟩) ?_ ?_
         rotate_left
         · intro w'
           go_simp
           with_reducible rfl
         rotate_left
         · simp only [Act.put, List.setIfInBounds_toArray, List.set_cons_zero, List.set_cons_succ, i64_w, i32_w]
           rfl
         refine pz 17 (some 69) (v := ?_) (a' := ?_) rfl rfl (by kernel_rfl) (fun _ _ _ h => h) (Or.inl ⟨by rfl, ?_⟩) ?_ ?_
         rotate_left
         · intro w'
           go_simp
           with_reducible rfl
         rotate_left
         · simp only [Act.put, List.setIfInBounds_toArray, List.set_cons_zero, List.set_cons_succ, i64_w, i32_w]
           rfl
         refine tz 11 (some 63) (v := ?_) (a' := ?_) rfl rfl (by kernel_rfl) (fun _ _ _ h => h) (Or.inl ⟨by rfl, ?_⟩) hHeld ?_ ?_
         rotate_left
         · rintro w' ⟨s0, s1, s2⟩
           go_simp
           with_reducible rfl
         rotate_left
         · simp only [Act.put, List.setIfInBounds_toArray, List.set_cons_zero, List.set_cons_succ, i64_w, i32_w]
           rfl
         refine pz 14 (some 66) (v := ?_) (a' := ?_) rfl rfl (by kernel_rfl) (fun _ _ _ h => h) (Or.inl ⟨by rfl, ?_⟩) ?_ ?_
         rotate_left
         · intro w'
           go_simp
           with_reducible rfl
         rotate_left
         · simp only [Act.put, List.setIfInBounds_toArray, List.set_cons_zero, List.set_cons_succ, i64_w, i32_w]
           rfl
         refine pz 15 (some 67) (v := ?_) (a' := ?_) rfl rfl (by kernel_rfl) (fun _ _ _ h => h) (Or.inl ⟨by rfl, ?_⟩) ?_ ?_
         rotate_left
         · intro w'
           go_simp
           with_reducible rfl
         rotate_left
         · simp only [Act.put, List.setIfInBounds_toArray, List.set_cons_zero, List.set_cons_succ, i64_w, i32_w]
           rfl
         refine tz 16 (some 68) (v := ?_) (a' := ?_) rfl rfl (by kernel_rfl) (fun _ _ _ h => h) (Or.inl ⟨by rfl, ?_⟩) hHeld ?_ ?_
         rotate_left
         · rintro w' ⟨s0, s1, s2⟩
           go_simp
           with_reducible rfl
         rotate_left
         · simp only [Act.put, List.setIfInBounds_toArray, List.set_cons_zero, List.set_cons_succ, i64_w, i32_w]
           rfl
         refine tz 18 (some 70) (v := ?_) (a' := ?_) rfl rfl (by kernel_rfl) (fun _ _ _ h => h) (Or.inl ⟨by rfl, ?_⟩) hHeld ?_ ?_
         rotate_left
         · rintro w' ⟨s0, s1, s2⟩
           go_simp
           with_reducible rfl
         rotate_left
         · simp only [Act.put, List.setIfInBounds_toArray, List.set_cons_zero, List.set_cons_succ, i64_w, i32_w]
           rfl
         refine pz 19 (some 71) (v := ?_) (a' := ?_) rfl rfl (by kernel_rfl) (fun _ _ _ h => h) (Or.inl ⟨by rfl, ?_⟩) ?_ ?_
         rotate_left
         · intro w'
           go_simp
           with_reducible rfl
         rotate_left
         · simp only [Act.put, List.setIfInBounds_toArray, List.set_cons_zero, List.set_cons_succ, i64_w, i32_w]
           rfl
         refine pz 20 (some 72) (v := ?_) (a' := ?_) rfl rfl (by kernel_rfl) (fun _ _ _ h => h) (Or.inl ⟨by rfl, ?_⟩) ?_ ?_
         rotate_left
         · intro w'
           go_simp
           with_reducible rfl
         rotate_left
         · simp only [Act.put, List.setIfInBounds_toArray, List.set_cons_zero, List.set_cons_succ, i64_w, i32_w]
           rfl
         refine pz 21 (some 73) (v := ?_) (a' := ?_) rfl rfl (by kernel_rfl) (fun _ _ _ h => h) (Or.inl ⟨by rfl, ?_⟩) ?_ ?_
         rotate_left
         · intro w'
           go_simp
           with_reducible rfl
         rotate_left
         · simp only [Act.put, List.setIfInBounds_toArray, List.set_cons_zero, List.set_cons_succ, i64_w, i32_w]
           rfl
         refine done_ (by kernel_rfl) ?_
         clear q4_0 q4_1 z4_0 z4_1 q5_0 q5_1 q5_2 q5_3 q5_4 q5_5 q5_6 q5_7 z5_0 z5_1 z5_2 z5_3 z5_4 z5_5 z5_6 z5_7 qe0 qe1 qe2 qe3
         obtain ⟨W49_, hW51_⟩ : ∃ W, W = W36_.drew := ⟨_, rfl⟩
         have HS50_ : Aside0 (KitW.St w W49_ [Box g19_ #[.slice (some ⟨g12_, 0, none⟩) l0.length l0.length, .slice (some ⟨g13_, 0, none⟩) l1.length l1.length, .slice (some ⟨g14_, 0, none⟩) l2.length l2.length] 66, Box g14_ (iv D2) 3, Box g13_ (iv D1) 3, Box g12_ (iv D0) 3, Box g32_ #[.int .i64 x25_.f0, .slice a27_ x25_.f1.length c28_] 54, Box g4_ #[.slice A0 l0.length c0, .slice A1 l1.length c1, .slice A2 l2.length c2, .int .i64 h, .int .i64 ce, .int .i64 s, .int .i64 st, .slice (some a24_) ds.length c7] 26]) := by rw [hW51_]; exact ⟨by simpa using HS37_.out.drew⟩
         rw [← hW51_]
         clear hW51_ HS37_
         have qe0 : W49_.cell? (a24_.add ((i).toNat * 2)) = some (.int .i64 x25_.f0) := pw_cell_below HS50_.out.B E26_F0.out
         have qe1 : W49_.cell? ⟨(a24_.add ((i).toNat * 2)).block, (a24_.add ((i).toNat * 2)).off + 1, none⟩ = some (.slice a27_ x25_.f1.length c28_) := pw_cell_below HS50_.out.B E26_F1.out
         have qe2 : W49_.cell? (a24_.add ((p41_).toNat * 2)) = some (.int .i64 x43_.f0) := pw_cell_below HS50_.out.B E44_F0.out
         have qe3 : W49_.cell? ⟨(a24_.add ((p41_).toNat * 2)).block, (a24_.add ((p41_).toNat * 2)).off + 1, none⟩ = some (.slice a45_ x43_.f1.length c46_) := pw_cell_below HS50_.out.B E44_F1.out
         go_wp2
         go_ret
         exact ⟨by unfold canR; rw [if_pos c6_A.out, ← HI.out, rd54_drop hi (by omega) Hx25_.out]; simp only [cnR]; rw [if_neg (fun h_ => by have h1 := h_.2.2; rw [HL.out.2 (by omega), show i - 1 = p41_ from by have := h42_E.out; omega, ← Hx43_.out] at h1; omega)]; try rfl, HS50_.out.B⟩
        ·
         have c47_1 : decide (x25_.f0 ≤ x43_.f0) = false := by simpa using c47_
         have c47_2 : x43_.f0 < x25_.f0 := by omega
         have c47_A := Aside0.mk c47_2
         clear c47_
         have HS52_ := Aside0.mk HS37_.out.drew
         obtain ⟨q4_0, q4_1, z4_0, z4_1⟩ := HS37_.out.c2 4 rfl
         obtain ⟨q5_0, q5_1, q5_2, q5_3, q5_4, q5_5, q5_6, q5_7, z5_0, z5_1, z5_2, z5_3, z5_4, z5_5, z5_6, z5_7⟩ := HS37_.out.c8 5 rfl
         have qe0 : W36_.cell? (a24_.add ((i).toNat * 2)) = some (.int .i64 x25_.f0) := pw_cell_below HS37_.out.B E26_F0.out
         have qe1 : W36_.cell? ⟨(a24_.add ((i).toNat * 2)).block, (a24_.add ((i).toNat * 2)).off + 1, none⟩ = some (.slice a27_ x25_.f1.length c28_) := pw_cell_below HS37_.out.B E26_F1.out
         have qe2 : W36_.cell? (a24_.add ((p41_).toNat * 2)) = some (.int .i64 x43_.f0) := pw_cell_below HS37_.out.B E44_F0.out
         have qe3 : W36_.cell? ⟨(a24_.add ((p41_).toNat * 2)).block, (a24_.add ((p41_).toNat * 2)).off + 1, none⟩ = some (.slice a45_ x43_.f1.length c46_) := pw_cell_below HS37_.out.B E44_F1.out
         go_wp2
         refine start_ (n := 22) (S := fun w' => w'.cell? ⟨g4_, 7, none⟩ = some (.slice (some a24_) ds.length c7) ∧ w'.cell? (a24_.add ((p41_).toNat * 2)) = some (.int .i64 x43_.f0) ∧ w'.cell? ⟨g32_, 0, none⟩ = some (.int .i64 x25_.f0)) (ds := []) #[false, false, false, false, false, false, false, false, false, false, false, false, false, false, false, false, false, false, false, false, false, false] (by kernel_rfl) rfl rfl ⟨(by go_simp), (by go_simp), (by go_simp)⟩ (fun hHeld => ?_)
         refine pz 0 (some 52) (v := ?_) (a' := ?_) rfl rfl (by kernel_rfl) (fun _ _ _ h => h) (Or.inl ⟨by rfl, ?_⟩) ?_ ?_
         rotate_left
         · intro w'
           go_simp
           with_reducible rfl
         rotate_left
         · simp only [Act.put, List.setIfInBounds_toArray, List.set_cons_zero, List.set_cons_succ, i64_w, i32_w]
           rfl
         refine pz 1 (some 53) (v := ?_) (a' := ?_) rfl rfl (by kernel_rfl) (fun _ _ _ h => h) (Or.inl ⟨by rfl, ?_⟩) ?_ ?_
         rotate_left
         · intro w'
           go_simp
           with_reducible rfl
         rotate_left
         · simp only [Act.put, List.setIfInBounds_toArray, List.set_cons_zero, List.set_cons_succ, i64_w, i32_w]
           rfl
         refine pz 2 (some 54) (v := ?_) (a' := ?_) rfl rfl (by kernel_rfl) (fun _ _ _ h => h) (Or.inl ⟨by rfl, ?_⟩) ?_ ?_
         rotate_left
         · intro w'
           go_simp
           with_reducible rfl
         rotate_left
         · simp only [Act.put, List.setIfInBounds_toArray, List.set_cons_zero, List.set_cons_succ, i64_w, i32_w]
           rfl
         refine pz 3 (some 55) (v := ?_) (a' := ?_) rfl rfl (by kernel_rfl) (fun _ _ _ h => h) (Or.inl ⟨by rfl, ?_⟩) ?_ ?_
         rotate_left
         · intro w'
           go_simp
           with_reducible rfl
         rotate_left
         · simp only [Act.put, List.setIfInBounds_toArray, List.set_cons_zero, List.set_cons_succ, i64_w, i32_w]
           rfl
         refine pz 4 (some 56) (v := ?_) (a' := ?_) rfl rfl (by kernel_rfl) (fun _ _ _ h => h) (Or.inl ⟨by rfl, ?_⟩) ?_ ?_
         rotate_left
         · intro w'
           go_simp
           with_reducible rfl
         rotate_left
         · simp only [Act.put, List.setIfInBounds_toArray, List.set_cons_zero, List.set_cons_succ, i64_w, i32_w]
           rfl
         refine pz 5 (some 57) (v := ?_) (a' := ?_) rfl rfl (by kernel_rfl) (fun _ _ _ h => h) (Or.inl ⟨by rfl, ?_⟩) ?_ ?_
         rotate_left
         · intro w'
           go_simp
           with_reducible rfl
         rotate_left
         · simp only [Act.put, List.setIfInBounds_toArray, List.set_cons_zero, List.set_cons_succ, i64_w, i32_w]
           rfl
         refine pz 6 (some 58) (v := ?_) (a' := ?_) rfl rfl (by kernel_rfl) (fun _ _ _ h => h) (Or.inl ⟨by rfl, ?_⟩) ?_ ?_
         rotate_left
         · intro w'
           go_simp
           with_reducible rfl
         rotate_left
         · simp only [Act.put, List.setIfInBounds_toArray, List.set_cons_zero, List.set_cons_succ, i64_w, i32_w]
           rfl
         refine pz 7 (some 59) (v := ?_) (a' := ?_) rfl rfl (by kernel_rfl) (fun _ _ _ h => h) (Or.inl ⟨by rfl, ?_⟩) ?_ ?_
         rotate_left
         · intro w'
           go_simp
           with_reducible rfl
         rotate_left
         · simp only [Act.put, List.setIfInBounds_toArray, List.set_cons_zero, List.set_cons_succ, i64_w, i32_w]
           rfl
         refine pz 8 (some 60) (v := ?_) (a' := ?_) rfl rfl (by kernel_rfl) (fun _ _ _ h => h) (Or.inl ⟨by rfl, ?_⟩) ?_ ?_
         rotate_left
         · intro w'
           go_simp
           with_reducible rfl
         rotate_left
         · simp only [Act.put, List.setIfInBounds_toArray, List.set_cons_zero, List.set_cons_succ, i64_w, i32_w]
           rfl
         refine pz 9 (some 61) (v := ?_) (a' := ?_) rfl rfl (by kernel_rfl) (fun _ _ _ h => h) (Or.inl ⟨by rfl, ?_⟩) ?_ ?_
         rotate_left
         · intro w'
           go_simp
           with_reducible rfl
         rotate_left
         · simp only [Act.put, List.setIfInBounds_toArray, List.set_cons_zero, List.set_cons_succ, i64_w, i32_w]
           rfl
         refine pz 10 (some 62) (v := ?_) (a' := ?_) rfl rfl (by kernel_rfl) (fun _ _ _ h => h) (Or.inl ⟨by rfl, ?_⟩) ?_ ?_
         rotate_left
         · intro w'
           go_simp
           with_reducible rfl
         rotate_left
         · simp only [Act.put, List.setIfInBounds_toArray, List.set_cons_zero, List.set_cons_succ, i64_w, i32_w]
           rfl
         refine pz 12 (some 64) (v := ?_) (a' := ?_) rfl rfl (by kernel_rfl) (fun _ _ _ h => h) (Or.inl ⟨by rfl, ?_⟩) ?_ ?_
         rotate_left
         · intro w'
           go_simp
           with_reducible rfl
         rotate_left
         · simp only [Act.put, List.setIfInBounds_toArray, List.set_cons_zero, List.set_cons_succ, i64_w, i32_w]
           rfl
         refine pz 13 (some 65) (v := ?_) (a' := ?_) rfl rfl (by kernel_rfl) (fun _ _ _ h => h) (Or.inl ⟨by rfl, ?_⟩) ?_ ?_
         rotate_left
         · intro w'
           go_simp
           with_reducible rfl
         rotate_left
         · simp only [Act.put, List.setIfInBounds_toArray, List.set_cons_zero, List.set_cons_succ, i64_w, i32_w]
           rfl
         refine pz 17 (some 69) (v := ?_) (a' := ?_) rfl rfl (by kernel_rfl) (fun _ _ _ h => h) (Or.inl ⟨by rfl, ?_⟩) ?_ ?_
         rotate_left
         · intro w'
           go_simp
           with_reducible rfl
         rotate_left
         · simp only [Act.put, List.setIfInBounds_toArray, List.set_cons_zero, List.set_cons_succ, i64_w, i32_w]
           rfl
         refine tz 11 (some 63) (v := ?_) (a' := ?_) rfl rfl (by kernel_rfl) (fun _ _ _ h => h) (Or.inl ⟨by rfl, ?_⟩) hHeld ?_ ?_
         rotate_left
         · rintro w' ⟨s0, s1, s2⟩
           go_simp
           with_reducible rfl
         rotate_left
         · simp only [Act.put, List.setIfInBounds_toArray, List.set_cons_zero, List.set_cons_succ, i64_w, i32_w]
           rfl
         refine pz 14 (some 66) (v := ?_) (a' := ?_) rfl rfl (by kernel_rfl) (fun _ _ _ h => h) (Or.inl ⟨by rfl, ?_⟩) ?_ ?_
         rotate_left
         · intro w'
           go_simp
           with_reducible rfl
         rotate_left
         · simp only [Act.put, List.setIfInBounds_toArray, List.set_cons_zero, List.set_cons_succ, i64_w, i32_w]
           rfl
         refine pz 15 (some 67) (v := ?_) (a' := ?_) rfl rfl (by kernel_rfl) (fun _ _ _ h => h) (Or.inl ⟨by rfl, ?_⟩) ?_ ?_
         rotate_left
         · intro w'
           go_simp
           with_reducible rfl
         rotate_left
         · simp only [Act.put, List.setIfInBounds_toArray, List.set_cons_zero, List.set_cons_succ, i64_w, i32_w]
           rfl
         refine tz 16 (some 68) (v := ?_) (a' := ?_) rfl rfl (by kernel_rfl) (fun _ _ _ h => h) (Or.inl ⟨by rfl, ?_⟩) hHeld ?_ ?_
         rotate_left
         · rintro w' ⟨s0, s1, s2⟩
           go_simp
           with_reducible rfl
         rotate_left
         · simp only [Act.put, List.setIfInBounds_toArray, List.set_cons_zero, List.set_cons_succ, i64_w, i32_w]
           rfl
         refine tz 18 (some 70) (v := ?_) (a' := ?_) rfl rfl (by kernel_rfl) (fun _ _ _ h => h) (Or.inl ⟨by rfl, ?_⟩) hHeld ?_ ?_
         rotate_left
         · rintro w' ⟨s0, s1, s2⟩
           go_simp
           with_reducible rfl
         rotate_left
         · simp only [Act.put, List.setIfInBounds_toArray, List.set_cons_zero, List.set_cons_succ, i64_w, i32_w]
           rfl
         refine pz 19 (some 71) (v := ?_) (a' := ?_) rfl rfl (by kernel_rfl) (fun _ _ _ h => h) (Or.inl ⟨by rfl, ?_⟩) ?_ ?_
         rotate_left
         · intro w'
           go_simp
           with_reducible rfl
         rotate_left
         · simp only [Act.put, List.setIfInBounds_toArray, List.set_cons_zero, List.set_cons_succ, i64_w, i32_w]
           rfl
         refine pz 20 (some 72) (v := ?_) (a' := ?_) rfl rfl (by kernel_rfl) (fun _ _ _ h => h) (Or.inl ⟨by rfl, ?_⟩) ?_ ?_
         rotate_left
         · intro w'
           go_simp
           with_reducible rfl
         rotate_left
         · simp only [Act.put, List.setIfInBounds_toArray, List.set_cons_zero, List.set_cons_succ, i64_w, i32_w]
           rfl
         refine pz 21 (some 73) (v := ?_) (a' := ?_) rfl rfl (by kernel_rfl) (fun _ _ _ h => h) (Or.inl ⟨by rfl, ?_⟩) ?_ ?_
         rotate_left
         · intro w'
           go_simp
           with_reducible rfl
         rotate_left
         · simp only [Act.put, List.setIfInBounds_toArray, List.set_cons_zero, List.set_cons_succ, i64_w, i32_w]
           rfl
         refine done_ (by kernel_rfl) ?_
         clear q4_0 q4_1 z4_0 z4_1 q5_0 q5_1 q5_2 q5_3 q5_4 q5_5 q5_6 q5_7 z5_0 z5_1 z5_2 z5_3 z5_4 z5_5 z5_6 z5_7 qe0 qe1 qe2 qe3
         obtain ⟨W53_, hW55_⟩ : ∃ W, W = W36_.drew := ⟨_, rfl⟩
         have HS54_ : Aside0 (KitW.St w W53_ [Box g19_ #[.slice (some ⟨g12_, 0, none⟩) l0.length l0.length, .slice (some ⟨g13_, 0, none⟩) l1.length l1.length, .slice (some ⟨g14_, 0, none⟩) l2.length l2.length] 66, Box g14_ (iv D2) 3, Box g13_ (iv D1) 3, Box g12_ (iv D0) 3, Box g32_ #[.int .i64 x25_.f0, .slice a27_ x25_.f1.length c28_] 54, Box g4_ #[.slice A0 l0.length c0, .slice A1 l1.length c1, .slice A2 l2.length c2, .int .i64 h, .int .i64 ce, .int .i64 s, .int .i64 st, .slice (some a24_) ds.length c7] 26]) := by rw [hW55_]; exact ⟨by simpa using HS37_.out.drew⟩
         rw [← hW55_]
         clear hW55_ HS37_
         obtain ⟨q4_0, q4_1, z4_0, z4_1⟩ := HS54_.out.c2 4 rfl
         have qe0 : W53_.cell? (a24_.add ((i).toNat * 2)) = some (.int .i64 x25_.f0) := pw_cell_below HS54_.out.B E26_F0.out
         have qe1 : W53_.cell? ⟨(a24_.add ((i).toNat * 2)).block, (a24_.add ((i).toNat * 2)).off + 1, none⟩ = some (.slice a27_ x25_.f1.length c28_) := pw_cell_below HS54_.out.B E26_F1.out
         have qe2 : W53_.cell? (a24_.add ((p41_).toNat * 2)) = some (.int .i64 x43_.f0) := pw_cell_below HS54_.out.B E44_F0.out
         have qe3 : W53_.cell? ⟨(a24_.add ((p41_).toNat * 2)).block, (a24_.add ((p41_).toNat * 2)).off + 1, none⟩ = some (.slice a45_ x43_.f1.length c46_) := pw_cell_below HS54_.out.B E44_F1.out
         go_wp2
         clear q4_0 q4_1 z4_0 z4_1 qe0 qe1 qe2 qe3
         have HS56_ : Aside0 (KitW.St w W53_ [Box g32_ #[.int .i64 x25_.f0, .slice a27_ x25_.f1.length c28_] 54, Box g19_ #[.slice (some ⟨g12_, 0, none⟩) l0.length l0.length, .slice (some ⟨g13_, 0, none⟩) l1.length l1.length, .slice (some ⟨g14_, 0, none⟩) l2.length l2.length] 66, Box g14_ (iv D2) 3, Box g13_ (iv D1) 3, Box g12_ (iv D0) 3, Box g4_ #[.slice A0 l0.length c0, .slice A1 l1.length c1, .slice A2 l2.length c2, .int .i64 h, .int .i64 ce, .int .i64 s, .int .i64 st, .slice (some a24_) ds.length c7] 26]) := ⟨St.rot [Box g19_ #[.slice (some ⟨g12_, 0, none⟩) l0.length l0.length, .slice (some ⟨g13_, 0, none⟩) l1.length l1.length, .slice (some ⟨g14_, 0, none⟩) l2.length l2.length] 66, Box g14_ (iv D2) 3, Box g13_ (iv D1) 3, Box g12_ (iv D0) 3] [Box g32_ #[.int .i64 x25_.f0, .slice a27_ x25_.f1.length c28_] 54] HS54_.out⟩
         clear HS54_
         have HS57_ : Aside0 (KitW.St w W53_ [Box g19_ #[.slice (some ⟨g12_, 0, none⟩) l0.length l0.length, .slice (some ⟨g13_, 0, none⟩) l1.length l1.length, .slice (some ⟨g14_, 0, none⟩) l2.length l2.length] 66, Box g14_ (iv D2) 3, Box g13_ (iv D1) 3, Box g12_ (iv D0) 3, Box g4_ #[.slice A0 l0.length c0, .slice A1 l1.length c1, .slice A2 l2.length c2, .int .i64 h, .int .i64 ce, .int .i64 s, .int .i64 st, .slice (some a24_) ds.length c7] 26]) := ⟨HS56_.out.drop 1⟩
         clear HS56_
         have hlt_ : last < x25_.f0 := by rw [HL.out.2 (by omega), show i - 1 = p41_ from by have := h42_E.out; omega, ← Hx43_.out]; omega
         have hw_ := wi_le c39_A.out
         go_roundg (gk21_ - 1)
         case measure => omega
         case rel => exact ⟨i + 1, n + (x25_.f1.length : Int), x25_.f0, D0, D1, D2, by go_num, by go_num, by omega, by omega, by omega, by omega, by omega, by omega, by omega, hD0, hD1, hD2, ⟨fun h_ => by omega, fun _ => by rw [show i + 1 - 1 = i from by omega, ← Hx25_.out]⟩, ⟨by rw [← HI.out, rd54_drop hi (by omega) Hx25_.out, (HDU.out c34_A.out).1, (HDU.out c34_A.out).2.1, (HDU.out c34_A.out).2.2]; simp only [cnR]; rw [if_pos ⟨c34_A.out, c39_A.out, hlt_⟩]⟩, HS57_⟩
       ·
        have c40_1 : decide (0 < i) = false := by simpa using c40_
        have c40_2 : i ≤ 0 := by omega
        have c40_A := Aside0.mk c40_2
        clear c40_
        have HS58_ := Aside0.mk HS37_.out.drew
        go_wp2
        refine start_ (n := 22) (S := fun w' => True) (ds := []) #[false, false, false, false, false, false, false, false, false, false, false, false, false, false, false, false, false, false, false, false, false, false] (by kernel_rfl) rfl rfl trivial (fun hHeld => ?_)
        refine pz 0 (some 52) (v := ?_) (a' := ?_) rfl rfl (by kernel_rfl) (fun _ _ _ h => h) (Or.inl ⟨by rfl, ?_⟩) ?_ ?_
        rotate_left
        · intro w'
          go_simp
          with_reducible rfl
        rotate_left
        · simp only [Act.put, List.setIfInBounds_toArray, List.set_cons_zero, List.set_cons_succ, i64_w, i32_w]
          rfl
        refine pz 1 (some 53) (v := ?_) (a' := ?_) rfl rfl (by kernel_rfl) (fun _ _ _ h => h) (Or.inl ⟨by rfl, ?_⟩) ?_ ?_
        rotate_left
        · intro w'
          go_simp
          with_reducible rfl
        rotate_left
        · simp only [Act.put, List.setIfInBounds_toArray, List.set_cons_zero, List.set_cons_succ, i64_w, i32_w]
          rfl
        refine pz 2 (some 54) (v := ?_) (a' := ?_) rfl rfl (by kernel_rfl) (fun _ _ _ h => h) (Or.inl ⟨by rfl, ?_⟩) ?_ ?_
        rotate_left
        · intro w'
          go_simp
          with_reducible rfl
        rotate_left
        · simp only [Act.put, List.setIfInBounds_toArray, List.set_cons_zero, List.set_cons_succ, i64_w, i32_w]
          rfl
        refine pz 3 (some 55) (v := ?_) (a' := ?_) rfl rfl (by kernel_rfl) (fun _ _ _ h => h) (Or.inl ⟨by rfl, ?_⟩) ?_ ?_
        rotate_left
        · intro w'
          go_simp
          with_reducible rfl
        rotate_left
        · simp only [Act.put, List.setIfInBounds_toArray, List.set_cons_zero, List.set_cons_succ, i64_w, i32_w]
          rfl
        refine pz 4 (some 56) (v := ?_) (a' := ?_) rfl rfl (by kernel_rfl) (fun _ _ _ h => h) (Or.inl ⟨by rfl, ?_⟩) ?_ ?_
        rotate_left
        · intro w'
          go_simp
          with_reducible rfl
        rotate_left
        · simp only [Act.put, List.setIfInBounds_toArray, List.set_cons_zero, List.set_cons_succ, i64_w, i32_w]
          rfl
        refine pz 5 (some 57) (v := ?_) (a' := ?_) rfl rfl (by kernel_rfl) (fun _ _ _ h => h) (Or.inl ⟨by rfl, ?_⟩) ?_ ?_
        rotate_left
        · intro w'
          go_simp
          with_reducible rfl
        rotate_left
        · simp only [Act.put, List.setIfInBounds_toArray, List.set_cons_zero, List.set_cons_succ, i64_w, i32_w]
          rfl
        refine pz 6 (some 58) (v := ?_) (a' := ?_) rfl rfl (by kernel_rfl) (fun _ _ _ h => h) (Or.inl ⟨by rfl, ?_⟩) ?_ ?_
        rotate_left
        · intro w'
          go_simp
          with_reducible rfl
        rotate_left
        · simp only [Act.put, List.setIfInBounds_toArray, List.set_cons_zero, List.set_cons_succ, i64_w, i32_w]
          rfl
        refine pz 7 (some 59) (v := ?_) (a' := ?_) rfl rfl (by kernel_rfl) (fun _ _ _ h => h) (Or.inl ⟨by rfl, ?_⟩) ?_ ?_
        rotate_left
        · intro w'
          go_simp
          with_reducible rfl
        rotate_left
        · simp only [Act.put, List.setIfInBounds_toArray, List.set_cons_zero, List.set_cons_succ, i64_w, i32_w]
          rfl
        refine pz 8 (some 60) (v := ?_) (a' := ?_) rfl rfl (by kernel_rfl) (fun _ _ _ h => h) (Or.inl ⟨by rfl, ?_⟩) ?_ ?_
        rotate_left
        · intro w'
          go_simp
          with_reducible rfl
        rotate_left
        · simp only [Act.put, List.setIfInBounds_toArray, List.set_cons_zero, List.set_cons_succ, i64_w, i32_w]
          rfl
        refine pz 9 (some 61) (v := ?_) (a' := ?_) rfl rfl (by kernel_rfl) (fun _ _ _ h => h) (Or.inl ⟨by rfl, ?_⟩) ?_ ?_
        rotate_left
        · intro w'
          go_simp
          with_reducible rfl
        rotate_left
        · simp only [Act.put, List.setIfInBounds_toArray, List.set_cons_zero, List.set_cons_succ, i64_w, i32_w]
          rfl
        refine pz 10 (some 62) (v := undef) (a' := ?_) rfl rfl (by kernel_rfl) (fun _ _ _ h => h) (Or.inr ⟨by rfl, rfl⟩) ?_ ?_
        rotate_left
        · simp only [Act.put, List.setIfInBounds_toArray, List.set_cons_zero, List.set_cons_succ, i64_w, i32_w]
          rfl
        refine pz 11 (some 63) (v := undef) (a' := ?_) rfl rfl (by kernel_rfl) (fun _ _ _ h => h) (Or.inr ⟨by rfl, rfl⟩) ?_ ?_
        rotate_left
        · simp only [Act.put, List.setIfInBounds_toArray, List.set_cons_zero, List.set_cons_succ, i64_w, i32_w]
          rfl
        refine pz 12 (some 64) (v := undef) (a' := ?_) rfl rfl (by kernel_rfl) (fun _ _ _ h => h) (Or.inr ⟨by rfl, rfl⟩) ?_ ?_
        rotate_left
        · simp only [Act.put, List.setIfInBounds_toArray, List.set_cons_zero, List.set_cons_succ, i64_w, i32_w]
          rfl
        refine pz 13 (some 65) (v := undef) (a' := ?_) rfl rfl (by kernel_rfl) (fun _ _ _ h => h) (Or.inr ⟨by rfl, rfl⟩) ?_ ?_
        rotate_left
        · simp only [Act.put, List.setIfInBounds_toArray, List.set_cons_zero, List.set_cons_succ, i64_w, i32_w]
          rfl
        refine pz 14 (some 66) (v := undef) (a' := ?_) rfl rfl (by kernel_rfl) (fun _ _ _ h => h) (Or.inr ⟨by rfl, rfl⟩) ?_ ?_
        rotate_left
        · simp only [Act.put, List.setIfInBounds_toArray, List.set_cons_zero, List.set_cons_succ, i64_w, i32_w]
          rfl
        refine pz 15 (some 67) (v := undef) (a' := ?_) rfl rfl (by kernel_rfl) (fun _ _ _ h => h) (Or.inr ⟨by rfl, rfl⟩) ?_ ?_
        rotate_left
        · simp only [Act.put, List.setIfInBounds_toArray, List.set_cons_zero, List.set_cons_succ, i64_w, i32_w]
          rfl
        refine pz 16 (some 68) (v := undef) (a' := ?_) rfl rfl (by kernel_rfl) (fun _ _ _ h => h) (Or.inr ⟨by rfl, rfl⟩) ?_ ?_
        rotate_left
        · simp only [Act.put, List.setIfInBounds_toArray, List.set_cons_zero, List.set_cons_succ, i64_w, i32_w]
          rfl
        refine pz 17 (some 69) (v := undef) (a' := ?_) rfl rfl (by kernel_rfl) (fun _ _ _ h => h) (Or.inr ⟨by rfl, rfl⟩) ?_ ?_
        rotate_left
        · simp only [Act.put, List.setIfInBounds_toArray, List.set_cons_zero, List.set_cons_succ, i64_w, i32_w]
          rfl
        refine pz 18 (some 70) (v := undef) (a' := ?_) rfl rfl (by kernel_rfl) (fun _ _ _ h => h) (Or.inr ⟨by rfl, rfl⟩) ?_ ?_
        rotate_left
        · simp only [Act.put, List.setIfInBounds_toArray, List.set_cons_zero, List.set_cons_succ, i64_w, i32_w]
          rfl
        refine pz 19 (some 71) (v := undef) (a' := ?_) rfl rfl (by kernel_rfl) (fun _ _ _ h => h) (Or.inr ⟨by rfl, rfl⟩) ?_ ?_
        rotate_left
        · simp only [Act.put, List.setIfInBounds_toArray, List.set_cons_zero, List.set_cons_succ, i64_w, i32_w]
          rfl
        refine pz 20 (some 72) (v := ?_) (a' := ?_) rfl rfl (by kernel_rfl) (fun _ _ _ h => h) (Or.inl ⟨by rfl, ?_⟩) ?_ ?_
        rotate_left
        · intro w'
          go_simp
          with_reducible rfl
        rotate_left
        · simp only [Act.put, List.setIfInBounds_toArray, List.set_cons_zero, List.set_cons_succ, i64_w, i32_w]
          rfl
        refine pz 21 (some 73) (v := ?_) (a' := ?_) rfl rfl (by kernel_rfl) (fun _ _ _ h => h) (Or.inl ⟨by rfl, ?_⟩) ?_ ?_
        rotate_left
        · intro w'
          go_simp
          with_reducible rfl
        rotate_left
        · simp only [Act.put, List.setIfInBounds_toArray, List.set_cons_zero, List.set_cons_succ, i64_w, i32_w]
          rfl
        refine done_ (by kernel_rfl) ?_
        clear q4_0 q4_1 z4_0 z4_1 q5_0 q5_1 q5_2 q5_3 q5_4 q5_5 q5_6 q5_7 z5_0 z5_1 z5_2 z5_3 z5_4 z5_5 z5_6 z5_7 qe0 qe1
        obtain ⟨W59_, hW61_⟩ : ∃ W, W = W36_.drew := ⟨_, rfl⟩
        have HS60_ : Aside0 (KitW.St w W59_ [Box g19_ #[.slice (some ⟨g12_, 0, none⟩) l0.length l0.length, .slice (some ⟨g13_, 0, none⟩) l1.length l1.length, .slice (some ⟨g14_, 0, none⟩) l2.length l2.length] 66, Box g14_ (iv D2) 3, Box g13_ (iv D1) 3, Box g12_ (iv D0) 3, Box g32_ #[.int .i64 x25_.f0, .slice a27_ x25_.f1.length c28_] 54, Box g4_ #[.slice A0 l0.length c0, .slice A1 l1.length c1, .slice A2 l2.length c2, .int .i64 h, .int .i64 ce, .int .i64 s, .int .i64 st, .slice (some a24_) ds.length c7] 26]) := by rw [hW61_]; exact ⟨by simpa using HS37_.out.drew⟩
        rw [← hW61_]
        clear hW61_ HS37_
        obtain ⟨q4_0, q4_1, z4_0, z4_1⟩ := HS60_.out.c2 4 rfl
        have qe0 : W59_.cell? (a24_.add ((i).toNat * 2)) = some (.int .i64 x25_.f0) := pw_cell_below HS60_.out.B E26_F0.out
        have qe1 : W59_.cell? ⟨(a24_.add ((i).toNat * 2)).block, (a24_.add ((i).toNat * 2)).off + 1, none⟩ = some (.slice a27_ x25_.f1.length c28_) := pw_cell_below HS60_.out.B E26_F1.out
        go_wp2
        clear q4_0 q4_1 z4_0 z4_1 qe0 qe1
        have HS62_ : Aside0 (KitW.St w W59_ [Box g32_ #[.int .i64 x25_.f0, .slice a27_ x25_.f1.length c28_] 54, Box g19_ #[.slice (some ⟨g12_, 0, none⟩) l0.length l0.length, .slice (some ⟨g13_, 0, none⟩) l1.length l1.length, .slice (some ⟨g14_, 0, none⟩) l2.length l2.length] 66, Box g14_ (iv D2) 3, Box g13_ (iv D1) 3, Box g12_ (iv D0) 3, Box g4_ #[.slice A0 l0.length c0, .slice A1 l1.length c1, .slice A2 l2.length c2, .int .i64 h, .int .i64 ce, .int .i64 s, .int .i64 st, .slice (some a24_) ds.length c7] 26]) := ⟨St.rot [Box g19_ #[.slice (some ⟨g12_, 0, none⟩) l0.length l0.length, .slice (some ⟨g13_, 0, none⟩) l1.length l1.length, .slice (some ⟨g14_, 0, none⟩) l2.length l2.length] 66, Box g14_ (iv D2) 3, Box g13_ (iv D1) 3, Box g12_ (iv D0) 3] [Box g32_ #[.int .i64 x25_.f0, .slice a27_ x25_.f1.length c28_] 54] HS60_.out⟩
        clear HS60_
        have HS63_ : Aside0 (KitW.St w W59_ [Box g19_ #[.slice (some ⟨g12_, 0, none⟩) l0.length l0.length, .slice (some ⟨g13_, 0, none⟩) l1.length l1.length, .slice (some ⟨g14_, 0, none⟩) l2.length l2.length] 66, Box g14_ (iv D2) 3, Box g13_ (iv D1) 3, Box g12_ (iv D0) 3, Box g4_ #[.slice A0 l0.length c0, .slice A1 l1.length c1, .slice A2 l2.length c2, .int .i64 h, .int .i64 ce, .int .i64 s, .int .i64 st, .slice (some a24_) ds.length c7] 26]) := ⟨HS62_.out.drop 1⟩
        clear HS62_
        have hlt_ : last < x25_.f0 := by rw [HL.out.1 (by omega)]; have := (wi_le c39_A.out).1; omega
        have hw_ := wi_le c39_A.out
        go_roundg (gk21_ - 1)
        case measure => omega
        case rel => exact ⟨i + 1, n + (x25_.f1.length : Int), x25_.f0, D0, D1, D2, by go_num, by go_num, by omega, by omega, by omega, by omega, by omega, by omega, by omega, hD0, hD1, hD2, ⟨fun h_ => by omega, fun _ => by rw [show i + 1 - 1 = i from by omega, ← Hx25_.out]⟩, ⟨by rw [← HI.out, rd54_drop hi (by omega) Hx25_.out, (HDU.out c34_A.out).1, (HDU.out c34_A.out).2.1, (HDU.out c34_A.out).2.2]; simp only [cnR]; rw [if_pos ⟨c34_A.out, c39_A.out, hlt_⟩]⟩, HS63_⟩
      ·
       have c39_A := Aside0.mk (Bool.eq_false_iff.2 c39_)
       clear c39_
       obtain ⟨q4_0, q4_1, z4_0, z4_1⟩ := HS37_.out.c2 4 rfl
       obtain ⟨q5_0, q5_1, q5_2, q5_3, q5_4, q5_5, q5_6, q5_7, z5_0, z5_1, z5_2, z5_3, z5_4, z5_5, z5_6, z5_7⟩ := HS37_.out.c8 5 rfl
       have qe0 : W36_.cell? (a24_.add ((i).toNat * 2)) = some (.int .i64 x25_.f0) := pw_cell_below HS37_.out.B E26_F0.out
       have qe1 : W36_.cell? ⟨(a24_.add ((i).toNat * 2)).block, (a24_.add ((i).toNat * 2)).off + 1, none⟩ = some (.slice a27_ x25_.f1.length c28_) := pw_cell_below HS37_.out.B E26_F1.out
       go_wp2_with (go_at_call 27; refine stop ?_)
       refine Stop.mk ?_
       refine (wiR_calls x25_.f0 h _).mono ?_
       rintro e W ⟨rfl, hw_⟩
       rw [hw_]
       clear hw_ W
       rw [c39_A.out]
       have HS64_ := Aside0.mk HS37_.out.drew
       go_wp2
       refine start_ (n := 22) (S := fun w' => True) (ds := []) #[false, false, false, false, false, false, false, false, false, false, false, false, false, false, false, false, false, false, false, false, false, false] (by kernel_rfl) rfl rfl trivial (fun hHeld => ?_)
       refine pz 0 (some 52) (v := ?_) (a' := ?_) rfl rfl (by kernel_rfl) (fun _ _ _ h => h) (Or.inl ⟨by rfl, ?_⟩) ?_ ?_
       rotate_left
       · intro w'
         go_simp
         with_reducible rfl
       rotate_left
       · simp only [Act.put, List.setIfInBounds_toArray, List.set_cons_zero, List.set_cons_succ, i64_w, i32_w]
         rfl
       refine pz 1 (some 53) (v := ?_) (a' := ?_) rfl rfl (by kernel_rfl) (fun _ _ _ h => h) (Or.inl ⟨by rfl, ?_⟩) ?_ ?_
       rotate_left
       · intro w'
         go_simp
         with_reducible rfl
       rotate_left
       · simp only [Act.put, List.setIfInBounds_toArray, List.set_cons_zero, List.set_cons_succ, i64_w, i32_w]
         rfl
       refine pz 2 (some 54) (v := ?_) (a' := ?_) rfl rfl (by kernel_rfl) (fun _ _ _ h => h) (Or.inl ⟨by rfl, ?_⟩) ?_ ?_
       rotate_left
       · intro w'
         go_simp
         with_reducible rfl
       rotate_left
       · simp only [Act.put, List.setIfInBounds_toArray, List.set_cons_zero, List.set_cons_succ, i64_w, i32_w]
         rfl
       refine pz 3 (some 55) (v := ?_) (a' := ?_) rfl rfl (by kernel_rfl) (fun _ _ _ h => h) (Or.inl ⟨by rfl, ?_⟩) ?_ ?_
       rotate_left
       · intro w'
         go_simp
         with_reducible rfl
       rotate_left
       · simp only [Act.put, List.setIfInBounds_toArray, List.set_cons_zero, List.set_cons_succ, i64_w, i32_w]
         rfl
       refine pz 4 (some 56) (v := ?_) (a' := ?_) rfl rfl (by kernel_rfl) (fun _ _ _ h => h) (Or.inl ⟨by rfl, ?_⟩) ?_ ?_
       rotate_left
       · intro w'
         go_simp
         with_reducible rfl
       rotate_left
       · simp only [Act.put, List.setIfInBounds_toArray, List.set_cons_zero, List.set_cons_succ, i64_w, i32_w]
         rfl
       refine pz 5 (some 57) (v := ?_) (a' := ?_) rfl rfl (by kernel_rfl) (fun _ _ _ h => h) (Or.inl ⟨by rfl, ?_⟩) ?_ ?_
       rotate_left
       · intro w'
         go_simp
         with_reducible rfl
       rotate_left
       · simp only [Act.put, List.setIfInBounds_toArray, List.set_cons_zero, List.set_cons_succ, i64_w, i32_w]
         rfl
       refine pz 6 (some 58) (v := ?_) (a' := ?_) rfl rfl (by kernel_rfl) (fun _ _ _ h => h) (Or.inl ⟨by rfl, ?_⟩) ?_ ?_
       rotate_left
       · intro w'
         go_simp
         with_reducible rfl
       rotate_left
       · simp only [Act.put, List.setIfInBounds_toArray, List.set_cons_zero, List.set_cons_succ, i64_w, i32_w]
         rfl
       refine pz 7 (some 59) (v := undef) (a' := ?_) rfl rfl (by kernel_rfl) (fun _ _ _ h => h) (Or.inr ⟨by rfl, rfl⟩) ?_ ?_
       rotate_left
       · simp only [Act.put, List.setIfInBounds_toArray, List.set_cons_zero, List.set_cons_succ, i64_w, i32_w]
         rfl
       refine pz 8 (some 60) (v := undef) (a' := ?_) rfl rfl (by kernel_rfl) (fun _ _ _ h => h) (Or.inr ⟨by rfl, rfl⟩) ?_ ?_
       rotate_left
       · simp only [Act.put, List.setIfInBounds_toArray, List.set_cons_zero, List.set_cons_succ, i64_w, i32_w]
         rfl
       refine pz 9 (some 61) (v := undef) (a' := ?_) rfl rfl (by kernel_rfl) (fun _ _ _ h => h) (Or.inr ⟨by rfl, rfl⟩) ?_ ?_
       rotate_left
       · simp only [Act.put, List.setIfInBounds_toArray, List.set_cons_zero, List.set_cons_succ, i64_w, i32_w]
         rfl
       refine pz 10 (some 62) (v := undef) (a' := ?_) rfl rfl (by kernel_rfl) (fun _ _ _ h => h) (Or.inr ⟨by rfl, rfl⟩) ?_ ?_
       rotate_left
       · simp only [Act.put, List.setIfInBounds_toArray, List.set_cons_zero, List.set_cons_succ, i64_w, i32_w]
         rfl
       refine pz 11 (some 63) (v := undef) (a' := ?_) rfl rfl (by kernel_rfl) (fun _ _ _ h => h) (Or.inr ⟨by rfl, rfl⟩) ?_ ?_
       rotate_left
       · simp only [Act.put, List.setIfInBounds_toArray, List.set_cons_zero, List.set_cons_succ, i64_w, i32_w]
         rfl
       refine pz 12 (some 64) (v := undef) (a' := ?_) rfl rfl (by kernel_rfl) (fun _ _ _ h => h) (Or.inr ⟨by rfl, rfl⟩) ?_ ?_
       rotate_left
       · simp only [Act.put, List.setIfInBounds_toArray, List.set_cons_zero, List.set_cons_succ, i64_w, i32_w]
         rfl
       refine pz 13 (some 65) (v := undef) (a' := ?_) rfl rfl (by kernel_rfl) (fun _ _ _ h => h) (Or.inr ⟨by rfl, rfl⟩) ?_ ?_
       rotate_left
       · simp only [Act.put, List.setIfInBounds_toArray, List.set_cons_zero, List.set_cons_succ, i64_w, i32_w]
         rfl
       refine pz 14 (some 66) (v := undef) (a' := ?_) rfl rfl (by kernel_rfl) (fun _ _ _ h => h) (Or.inr ⟨by rfl, rfl⟩) ?_ ?_
       rotate_left
       · simp only [Act.put, List.setIfInBounds_toArray, List.set_cons_zero, List.set_cons_succ, i64_w, i32_w]
         rfl
       refine pz 15 (some 67) (v := undef) (a' := ?_) rfl rfl (by kernel_rfl) (fun _ _ _ h => h) (Or.inr ⟨by rfl, rfl⟩) ?_ ?_
       rotate_left
       · simp only [Act.put, List.setIfInBounds_toArray, List.set_cons_zero, List.set_cons_succ, i64_w, i32_w]
         rfl
       refine pz 16 (some 68) (v := undef) (a' := ?_) rfl rfl (by kernel_rfl) (fun _ _ _ h => h) (Or.inr ⟨by rfl, rfl⟩) ?_ ?_
       rotate_left
       · simp only [Act.put, List.setIfInBounds_toArray, List.set_cons_zero, List.set_cons_succ, i64_w, i32_w]
         rfl
       refine pz 17 (some 69) (v := undef) (a' := ?_) rfl rfl (by kernel_rfl) (fun _ _ _ h => h) (Or.inr ⟨by rfl, rfl⟩) ?_ ?_
       rotate_left
       · simp only [Act.put, List.setIfInBounds_toArray, List.set_cons_zero, List.set_cons_succ, i64_w, i32_w]
         rfl
       refine pz 18 (some 70) (v := undef) (a' := ?_) rfl rfl (by kernel_rfl) (fun _ _ _ h => h) (Or.inr ⟨by rfl, rfl⟩) ?_ ?_
       rotate_left
       · simp only [Act.put, List.setIfInBounds_toArray, List.set_cons_zero, List.set_cons_succ, i64_w, i32_w]
         rfl
       refine pz 19 (some 71) (v := undef) (a' := ?_) rfl rfl (by kernel_rfl) (fun _ _ _ h => h) (Or.inr ⟨by rfl, rfl⟩) ?_ ?_
       rotate_left
       · simp only [Act.put, List.setIfInBounds_toArray, List.set_cons_zero, List.set_cons_succ, i64_w, i32_w]
         rfl
       refine pz 20 (some 72) (v := undef) (a' := ?_) rfl rfl (by kernel_rfl) (fun _ _ _ h => h) (Or.inr ⟨by rfl, rfl⟩) ?_ ?_
       rotate_left
       · simp only [Act.put, List.setIfInBounds_toArray, List.set_cons_zero, List.set_cons_succ, i64_w, i32_w]
         rfl
       refine pz 21 (some 73) (v := ?_) (a' := ?_) rfl rfl (by kernel_rfl) (fun _ _ _ h => h) (Or.inl ⟨by rfl, ?_⟩) ?_ ?_
       rotate_left
       · intro w'
         go_simp
         with_reducible rfl
       rotate_left
       · simp only [Act.put, List.setIfInBounds_toArray, List.set_cons_zero, List.set_cons_succ, i64_w, i32_w]
         rfl
       refine done_ (by kernel_rfl) ?_
       clear q4_0 q4_1 z4_0 z4_1 q5_0 q5_1 q5_2 q5_3 q5_4 q5_5 q5_6 q5_7 z5_0 z5_1 z5_2 z5_3 z5_4 z5_5 z5_6 z5_7 qe0 qe1
       obtain ⟨W65_, hW67_⟩ : ∃ W, W = W36_.drew := ⟨_, rfl⟩
       have HS66_ : Aside0 (KitW.St w W65_ [Box g19_ #[.slice (some ⟨g12_, 0, none⟩) l0.length l0.length, .slice (some ⟨g13_, 0, none⟩) l1.length l1.length, .slice (some ⟨g14_, 0, none⟩) l2.length l2.length] 66, Box g14_ (iv D2) 3, Box g13_ (iv D1) 3, Box g12_ (iv D0) 3, Box g32_ #[.int .i64 x25_.f0, .slice a27_ x25_.f1.length c28_] 54, Box g4_ #[.slice A0 l0.length c0, .slice A1 l1.length c1, .slice A2 l2.length c2, .int .i64 h, .int .i64 ce, .int .i64 s, .int .i64 st, .slice (some a24_) ds.length c7] 26]) := by rw [hW67_]; exact ⟨by simpa using HS37_.out.drew⟩
       rw [← hW67_]
       clear hW67_ HS37_
       have qe0 : W65_.cell? (a24_.add ((i).toNat * 2)) = some (.int .i64 x25_.f0) := pw_cell_below HS66_.out.B E26_F0.out
       have qe1 : W65_.cell? ⟨(a24_.add ((i).toNat * 2)).block, (a24_.add ((i).toNat * 2)).off + 1, none⟩ = some (.slice a27_ x25_.f1.length c28_) := pw_cell_below HS66_.out.B E26_F1.out
       go_wp2
       go_ret
       exact ⟨by unfold canR; rw [if_pos c6_A.out, ← HI.out, rd54_drop hi (by omega) Hx25_.out]; simp only [cnR]; rw [if_neg (fun h_ => by rw [c39_A.out] at h_; cases h_.2.1)]; try rfl, HS66_.out.B⟩
     ·
      have c34_A := Aside0.mk (Bool.eq_false_iff.2 c34_)
      clear c34_
      obtain ⟨q0_0, q0_1, z0_0, z0_1⟩ := HS30_.out.c2 0 rfl
      obtain ⟨q5_0, q5_1, q5_2, q5_3, q5_4, q5_5, q5_6, q5_7, z5_0, z5_1, z5_2, z5_3, z5_4, z5_5, z5_6, z5_7⟩ := HS30_.out.c8 5 rfl
      have qe0 : W29_.cell? (a24_.add ((i).toNat * 2)) = some (.int .i64 x25_.f0) := pw_cell_below HS30_.out.B E26_F0.out
      have qe1 : W29_.cell? ⟨(a24_.add ((i).toNat * 2)).block, (a24_.add ((i).toNat * 2)).off + 1, none⟩ = some (.slice a27_ x25_.f1.length c28_) := pw_cell_below HS30_.out.B E26_F1.out
      go_wp2_with (go_at_call 26; refine stop ?_)
      refine Stop.mk ?_
      clear q0_0 q0_1 z0_0 z0_1 q5_0 q5_1 q5_2 q5_3 q5_4 q5_5 q5_6 q5_7 z5_0 z5_1 z5_2 z5_3 z5_4 z5_5 z5_6 z5_7 qe0 qe1
      have HS68_ : Aside0 (KitW.St w W29_ [Box g19_ #[.slice (some ⟨g12_, 0, none⟩) l0.length l0.length, .slice (some ⟨g13_, 0, none⟩) l1.length l1.length, .slice (some ⟨g14_, 0, none⟩) l2.length l2.length] 66, Box g14_ (iv d2) 3, Box g13_ (iv d1) 3, Box g12_ (iv d0) 3, Box g32_ #[.int .i64 x25_.f0, .slice a27_ x25_.f1.length c28_] 54, Box g4_ #[.slice A0 l0.length c0, .slice A1 l1.length c1, .slice A2 l2.length c2, .int .i64 h, .int .i64 ce, .int .i64 s, .int .i64 st, .slice (some a24_) ds.length c7] 26]) := ⟨St.rot [Box g32_ #[.int .i64 x25_.f0, .slice a27_ x25_.f1.length c28_] 54] [Box g19_ #[.slice (some ⟨g12_, 0, none⟩) l0.length l0.length, .slice (some ⟨g13_, 0, none⟩) l1.length l1.length, .slice (some ⟨g14_, 0, none⟩) l2.length l2.length] 66, Box g14_ (iv d2) 3, Box g13_ (iv d1) 3, Box g12_ (iv d0) 3] HS30_.out⟩
      clear HS30_
      refine (code_calls _ _ _ _ _ _ _ _ _ _ _ _ _ _ _ _ _ _ _ _ _ _ _ _ _ _ _ _ _ hd0 hd1 hd2 LR.out E26_RA.out HS68_.out).mono ?_
      rintro e W69_ ⟨D0, D1, D2, hD0, hD1, hD2, rfl, hDU, k71_⟩
      have HS70_ : Aside0 (KitW.St w W69_ [Box g19_ #[.slice (some ⟨g12_, 0, none⟩) l0.length l0.length, .slice (some ⟨g13_, 0, none⟩) l1.length l1.length, .slice (some ⟨g14_, 0, none⟩) l2.length l2.length] 66, Box g14_ (iv D2) 3, Box g13_ (iv D1) 3, Box g12_ (iv D0) 3, Box g32_ #[.int .i64 x25_.f0, .slice a27_ x25_.f1.length c28_] 54, Box g4_ #[.slice A0 l0.length c0, .slice A1 l1.length c1, .slice A2 l2.length c2, .int .i64 h, .int .i64 ce, .int .i64 s, .int .i64 st, .slice (some a24_) ds.length c7] 26]) := ⟨k71_⟩
      clear k71_ HS68_
      rw [c34_A.out]
      have HDU := Aside0.mk hDU
      clear hDU
      by_cases c72_ : (wi x25_.f0 h) = true
      ·
       have c72_A := Aside0.mk c72_
       clear c72_
       obtain ⟨q4_0, q4_1, z4_0, z4_1⟩ := HS70_.out.c2 4 rfl
       obtain ⟨q5_0, q5_1, q5_2, q5_3, q5_4, q5_5, q5_6, q5_7, z5_0, z5_1, z5_2, z5_3, z5_4, z5_5, z5_6, z5_7⟩ := HS70_.out.c8 5 rfl
       have qe0 : W69_.cell? (a24_.add ((i).toNat * 2)) = some (.int .i64 x25_.f0) := pw_cell_below HS70_.out.B E26_F0.out
       have qe1 : W69_.cell? ⟨(a24_.add ((i).toNat * 2)).block, (a24_.add ((i).toNat * 2)).off + 1, none⟩ = some (.slice a27_ x25_.f1.length c28_) := pw_cell_below HS70_.out.B E26_F1.out
       go_wp2_with (go_at_call 27; refine stop ?_)
       refine Stop.mk ?_
       refine (wiR_calls x25_.f0 h _).mono ?_
       rintro e W ⟨rfl, hw_⟩
       rw [hw_]
       clear hw_ W
       rw [c72_A.out]
       have HS73_ := Aside0.mk HS70_.out.drew
       go_wp2
       refine start_ (n := 22) (S := fun w' => True) (ds := []) #[false, false, false, false, false, false, false, false, false, false, false, false, false, false, false, false, false, false, false, false, false, false] (by kernel_rfl) rfl rfl trivial (fun hHeld => ?_)
       refine pz 0 (some 52) (v := ?_) (a' := ?_) rfl rfl (by kernel_rfl) (fun _ _ _ h => h) (Or.inl ⟨by rfl, ?_⟩) ?_ ?_
       rotate_left
       · intro w'
         go_simp
         with_reducible rfl
       rotate_left
       · simp only [Act.put, List.setIfInBounds_toArray, List.set_cons_zero, List.set_cons_succ, i64_w, i32_w]
         rfl
       refine pz 1 (some 53) (v := ?_) (a' := ?_) rfl rfl (by kernel_rfl) (fun _ _ _ h => h) (Or.inl ⟨by rfl, ?_⟩) ?_ ?_
       rotate_left
       · intro w'
         go_simp
         with_reducible rfl
       rotate_left
       · simp only [Act.put, List.setIfInBounds_toArray, List.set_cons_zero, List.set_cons_succ, i64_w, i32_w]
         rfl
       refine pz 2 (some 54) (v := ?_) (a' := ?_) rfl rfl (by kernel_rfl) (fun _ _ _ h => h) (Or.inl ⟨by rfl, ?_⟩) ?_ ?_
       rotate_left
       · intro w'
         go_simp
         with_reducible rfl
       rotate_left
       · simp only [Act.put, List.setIfInBounds_toArray, List.set_cons_zero, List.set_cons_succ, i64_w, i32_w]
         rfl
       refine pz 3 (some 55) (v := undef) (a' := ?_) rfl rfl (by kernel_rfl) (fun _ _ _ h => h) (Or.inr ⟨by rfl, rfl⟩) ?_ ?_
       rotate_left
       · simp only [Act.put, List.setIfInBounds_toArray, List.set_cons_zero, List.set_cons_succ, i64_w, i32_w]
         rfl
       refine pz 4 (some 56) (v := undef) (a' := ?_) rfl rfl (by kernel_rfl) (fun _ _ _ h => h) (Or.inr ⟨by rfl, rfl⟩) ?_ ?_
       rotate_left
       · simp only [Act.put, List.setIfInBounds_toArray, List.set_cons_zero, List.set_cons_succ, i64_w, i32_w]
         rfl
       refine pz 5 (some 57) (v := ?_) (a' := ?_) rfl rfl (by kernel_rfl) (fun _ _ _ h => h) (Or.inl ⟨by rfl, ?_⟩) ?_ ?_
       rotate_left
       · intro w'
         go_simp
         with_reducible rfl
       rotate_left
       · simp only [Act.put, List.setIfInBounds_toArray, List.set_cons_zero, List.set_cons_succ, i64_w, i32_w]
         rfl
       refine pz 6 (some 58) (v := ?_) (a' := ?_) rfl rfl (by kernel_rfl) (fun _ _ _ h => h) (Or.inl ⟨by rfl, ?_⟩) ?_ ?_
       rotate_left
       · intro w'
         go_simp
         with_reducible rfl
       rotate_left
       · simp only [Act.put, List.setIfInBounds_toArray, List.set_cons_zero, List.set_cons_succ, i64_w, i32_w]
         rfl
       refine pz 7 (some 59) (v := undef) (a' := ?_) rfl rfl (by kernel_rfl) (fun _ _ _ h => h) (Or.inr ⟨by rfl, rfl⟩) ?_ ?_
       rotate_left
       · simp only [Act.put, List.setIfInBounds_toArray, List.set_cons_zero, List.set_cons_succ, i64_w, i32_w]
         rfl
       refine pz 8 (some 60) (v := undef) (a' := ?_) rfl rfl (by kernel_rfl) (fun _ _ _ h => h) (Or.inr ⟨by rfl, rfl⟩) ?_ ?_
       rotate_left
       · simp only [Act.put, List.setIfInBounds_toArray, List.set_cons_zero, List.set_cons_succ, i64_w, i32_w]
         rfl
       refine pz 9 (some 61) (v := undef) (a' := ?_) rfl rfl (by kernel_rfl) (fun _ _ _ h => h) (Or.inr ⟨by rfl, rfl⟩) ?_ ?_
       rotate_left
       · simp only [Act.put, List.setIfInBounds_toArray, List.set_cons_zero, List.set_cons_succ, i64_w, i32_w]
         rfl
       refine pz 10 (some 62) (v := undef) (a' := ?_) rfl rfl (by kernel_rfl) (fun _ _ _ h => h) (Or.inr ⟨by rfl, rfl⟩) ?_ ?_
       rotate_left
       · simp only [Act.put, List.setIfInBounds_toArray, List.set_cons_zero, List.set_cons_succ, i64_w, i32_w]
         rfl
       refine pz 11 (some 63) (v := undef) (a' := ?_) rfl rfl (by kernel_rfl) (fun _ _ _ h => h) (Or.inr ⟨by rfl, rfl⟩) ?_ ?_
       rotate_left
       · simp only [Act.put, List.setIfInBounds_toArray, List.set_cons_zero, List.set_cons_succ, i64_w, i32_w]
         rfl
       refine pz 12 (some 64) (v := undef) (a' := ?_) rfl rfl (by kernel_rfl) (fun _ _ _ h => h) (Or.inr ⟨by rfl, rfl⟩) ?_ ?_
       rotate_left
       · simp only [Act.put, List.setIfInBounds_toArray, List.set_cons_zero, List.set_cons_succ, i64_w, i32_w]
         rfl
       refine pz 13 (some 65) (v := undef) (a' := ?_) rfl rfl (by kernel_rfl) (fun _ _ _ h => h) (Or.inr ⟨by rfl, rfl⟩) ?_ ?_
       rotate_left
       · simp only [Act.put, List.setIfInBounds_toArray, List.set_cons_zero, List.set_cons_succ, i64_w, i32_w]
         rfl
       refine pz 14 (some 66) (v := undef) (a' := ?_) rfl rfl (by kernel_rfl) (fun _ _ _ h => h) (Or.inr ⟨by rfl, rfl⟩) ?_ ?_
       rotate_left
       · simp only [Act.put, List.setIfInBounds_toArray, List.set_cons_zero, List.set_cons_succ, i64_w, i32_w]
         rfl
       refine pz 15 (some 67) (v := undef) (a' := ?_) rfl rfl (by kernel_rfl) (fun _ _ _ h => h) (Or.inr ⟨by rfl, rfl⟩) ?_ ?_
       rotate_left
       · simp only [Act.put, List.setIfInBounds_toArray, List.set_cons_zero, List.set_cons_succ, i64_w, i32_w]
         rfl
       refine pz 16 (some 68) (v := undef) (a' := ?_) rfl rfl (by kernel_rfl) (fun _ _ _ h => h) (Or.inr ⟨by rfl, rfl⟩) ?_ ?_
       rotate_left
       · simp only [Act.put, List.setIfInBounds_toArray, List.set_cons_zero, List.set_cons_succ, i64_w, i32_w]
         rfl
       refine pz 17 (some 69) (v := undef) (a' := ?_) rfl rfl (by kernel_rfl) (fun _ _ _ h => h) (Or.inr ⟨by rfl, rfl⟩) ?_ ?_
       rotate_left
       · simp only [Act.put, List.setIfInBounds_toArray, List.set_cons_zero, List.set_cons_succ, i64_w, i32_w]
         rfl
       refine pz 18 (some 70) (v := undef) (a' := ?_) rfl rfl (by kernel_rfl) (fun _ _ _ h => h) (Or.inr ⟨by rfl, rfl⟩) ?_ ?_
       rotate_left
       · simp only [Act.put, List.setIfInBounds_toArray, List.set_cons_zero, List.set_cons_succ, i64_w, i32_w]
         rfl
       refine pz 19 (some 71) (v := undef) (a' := ?_) rfl rfl (by kernel_rfl) (fun _ _ _ h => h) (Or.inr ⟨by rfl, rfl⟩) ?_ ?_
       rotate_left
       · simp only [Act.put, List.setIfInBounds_toArray, List.set_cons_zero, List.set_cons_succ, i64_w, i32_w]
         rfl
       refine pz 20 (some 72) (v := undef) (a' := ?_) rfl rfl (by kernel_rfl) (fun _ _ _ h => h) (Or.inr ⟨by rfl, rfl⟩) ?_ ?_
       rotate_left
       · simp only [Act.put, List.setIfInBounds_toArray, List.set_cons_zero, List.set_cons_succ, i64_w, i32_w]
         rfl
       refine pz 21 (some 73) (v := ?_) (a' := ?_) rfl rfl (by kernel_rfl) (fun _ _ _ h => h) (Or.inl ⟨by rfl, ?_⟩) ?_ ?_
       rotate_left
       · intro w'
         go_simp
         with_reducible rfl
       rotate_left
       · simp only [Act.put, List.setIfInBounds_toArray, List.set_cons_zero, List.set_cons_succ, i64_w, i32_w]
         rfl
       refine done_ (by kernel_rfl) ?_
       clear q4_0 q4_1 z4_0 z4_1 q5_0 q5_1 q5_2 q5_3 q5_4 q5_5 q5_6 q5_7 z5_0 z5_1 z5_2 z5_3 z5_4 z5_5 z5_6 z5_7 qe0 qe1
       obtain ⟨W74_, hW76_⟩ : ∃ W, W = W69_.drew := ⟨_, rfl⟩
       have HS75_ : Aside0 (KitW.St w W74_ [Box g19_ #[.slice (some ⟨g12_, 0, none⟩) l0.length l0.length, .slice (some ⟨g13_, 0, none⟩) l1.length l1.length, .slice (some ⟨g14_, 0, none⟩) l2.length l2.length] 66, Box g14_ (iv D2) 3, Box g13_ (iv D1) 3, Box g12_ (iv D0) 3, Box g32_ #[.int .i64 x25_.f0, .slice a27_ x25_.f1.length c28_] 54, Box g4_ #[.slice A0 l0.length c0, .slice A1 l1.length c1, .slice A2 l2.length c2, .int .i64 h, .int .i64 ce, .int .i64 s, .int .i64 st, .slice (some a24_) ds.length c7] 26]) := by rw [hW76_]; exact ⟨by simpa using HS70_.out.drew⟩
       rw [← hW76_]
       clear hW76_ HS70_
       have qe0 : W74_.cell? (a24_.add ((i).toNat * 2)) = some (.int .i64 x25_.f0) := pw_cell_below HS75_.out.B E26_F0.out
       have qe1 : W74_.cell? ⟨(a24_.add ((i).toNat * 2)).block, (a24_.add ((i).toNat * 2)).off + 1, none⟩ = some (.slice a27_ x25_.f1.length c28_) := pw_cell_below HS75_.out.B E26_F1.out
       go_wp2
       go_ret
       exact ⟨by unfold canR; rw [if_pos c6_A.out, ← HI.out, rd54_drop hi (by omega) Hx25_.out]; simp only [cnR]; rw [if_neg (fun h_ => by rw [c34_A.out] at h_; cases h_.1)]; try rfl, HS75_.out.B⟩
      ·
       have c72_A := Aside0.mk (Bool.eq_false_iff.2 c72_)
       clear c72_
       obtain ⟨q4_0, q4_1, z4_0, z4_1⟩ := HS70_.out.c2 4 rfl
       obtain ⟨q5_0, q5_1, q5_2, q5_3, q5_4, q5_5, q5_6, q5_7, z5_0, z5_1, z5_2, z5_3, z5_4, z5_5, z5_6, z5_7⟩ := HS70_.out.c8 5 rfl
       have qe0 : W69_.cell? (a24_.add ((i).toNat * 2)) = some (.int .i64 x25_.f0) := pw_cell_below HS70_.out.B E26_F0.out
       have qe1 : W69_.cell? ⟨(a24_.add ((i).toNat * 2)).block, (a24_.add ((i).toNat * 2)).off + 1, none⟩ = some (.slice a27_ x25_.f1.length c28_) := pw_cell_below HS70_.out.B E26_F1.out
       go_wp2_with (go_at_call 27; refine stop ?_)
       refine Stop.mk ?_
       refine (wiR_calls x25_.f0 h _).mono ?_
       rintro e W ⟨rfl, hw_⟩
       rw [hw_]
       clear hw_ W
       rw [c72_A.out]
       have HS77_ := Aside0.mk HS70_.out.drew
       go_wp2
       refine start_ (n := 22) (S := fun w' => True) (ds := []) #[false, false, false, false, false, false, false, false, false, false, false, false, false, false, false, false, false, false, false, false, false, false] (by kernel_rfl) rfl rfl trivial (fun hHeld => ?_)
       refine pz 0 (some 52) (v := ?_) (a' := ?_) rfl rfl (by kernel_rfl) (fun _ _ _ h => h) (Or.inl ⟨by rfl, ?_⟩) ?_ ?_
       rotate_left
       · intro w'
         go_simp
         with_reducible rfl
       rotate_left
       · simp only [Act.put, List.setIfInBounds_toArray, List.set_cons_zero, List.set_cons_succ, i64_w, i32_w]
         rfl
       refine pz 1 (some 53) (v := ?_) (a' := ?_) rfl rfl (by kernel_rfl) (fun _ _ _ h => h) (Or.inl ⟨by rfl, ?_⟩) ?_ ?_
       rotate_left
       · intro w'
         go_simp
         with_reducible rfl
       rotate_left
       · simp only [Act.put, List.setIfInBounds_toArray, List.set_cons_zero, List.set_cons_succ, i64_w, i32_w]
         rfl
       refine pz 2 (some 54) (v := ?_) (a' := ?_) rfl rfl (by kernel_rfl) (fun _ _ _ h => h) (Or.inl ⟨by rfl, ?_⟩) ?_ ?_
       rotate_left
       · intro w'
         go_simp
         with_reducible rfl
       rotate_left
       · simp only [Act.put, List.setIfInBounds_toArray, List.set_cons_zero, List.set_cons_succ, i64_w, i32_w]
         rfl
       refine pz 3 (some 55) (v := undef) (a' := ?_) rfl rfl (by kernel_rfl) (fun _ _ _ h => h) (Or.inr ⟨by rfl, rfl⟩) ?_ ?_
       rotate_left
       · simp only [Act.put, List.setIfInBounds_toArray, List.set_cons_zero, List.set_cons_succ, i64_w, i32_w]
         rfl
       refine pz 4 (some 56) (v := undef) (a' := ?_) rfl rfl (by kernel_rfl) (fun _ _ _ h => h) (Or.inr ⟨by rfl, rfl⟩) ?_ ?_
       rotate_left
       · simp only [Act.put, List.setIfInBounds_toArray, List.set_cons_zero, List.set_cons_succ, i64_w, i32_w]
         rfl
       refine pz 5 (some 57) (v := ?_) (a' := ?_) rfl rfl (by kernel_rfl) (fun _ _ _ h => h) (Or.inl ⟨by rfl, ?_⟩) ?_ ?_
       rotate_left
       · intro w'
         go_simp
         with_reducible rfl
       rotate_left
       · simp only [Act.put, List.setIfInBounds_toArray, List.set_cons_zero, List.set_cons_succ, i64_w, i32_w]
         rfl
       refine pz 6 (some 58) (v := ?_) (a' := ?_) rfl rfl (by kernel_rfl) (fun _ _ _ h => h) (Or.inl ⟨by rfl, ?_⟩) ?_ ?_
       rotate_left
       · intro w'
         go_simp
         with_reducible rfl
       rotate_left
       · simp only [Act.put, List.setIfInBounds_toArray, List.set_cons_zero, List.set_cons_succ, i64_w, i32_w]
         rfl
       refine pz 7 (some 59) (v := undef) (a' := ?_) rfl rfl (by kernel_rfl) (fun _ _ _ h => h) (Or.inr ⟨by rfl, rfl⟩) ?_ ?_
       rotate_left
       · simp only [Act.put, List.setIfInBounds_toArray, List.set_cons_zero, List.set_cons_succ, i64_w, i32_w]
         rfl
       refine pz 8 (some 60) (v := undef) (a' := ?_) rfl rfl (by kernel_rfl) (fun _ _ _ h => h) (Or.inr ⟨by rfl, rfl⟩) ?_ ?_
       rotate_left
       · simp only [Act.put, List.setIfInBounds_toArray, List.set_cons_zero, List.set_cons_succ, i64_w, i32_w]
         rfl
       refine pz 9 (some 61) (v := undef) (a' := ?_) rfl rfl (by kernel_rfl) (fun _ _ _ h => h) (Or.inr ⟨by rfl, rfl⟩) ?_ ?_
       rotate_left
       · simp only [Act.put, List.setIfInBounds_toArray, List.set_cons_zero, List.set_cons_succ, i64_w, i32_w]
         rfl
       refine pz 10 (some 62) (v := undef) (a' := ?_) rfl rfl (by kernel_rfl) (fun _ _ _ h => h) (Or.inr ⟨by rfl, rfl⟩) ?_ ?_
       rotate_left
       · simp only [Act.put, List.setIfInBounds_toArray, List.set_cons_zero, List.set_cons_succ, i64_w, i32_w]
         rfl
       refine pz 11 (some 63) (v := undef) (a' := ?_) rfl rfl (by kernel_rfl) (fun _ _ _ h => h) (Or.inr ⟨by rfl, rfl⟩) ?_ ?_
       rotate_left
       · simp only [Act.put, List.setIfInBounds_toArray, List.set_cons_zero, List.set_cons_succ, i64_w, i32_w]
         rfl
       refine pz 12 (some 64) (v := undef) (a' := ?_) rfl rfl (by kernel_rfl) (fun _ _ _ h => h) (Or.inr ⟨by rfl, rfl⟩) ?_ ?_
       rotate_left
       · simp only [Act.put, List.setIfInBounds_toArray, List.set_cons_zero, List.set_cons_succ, i64_w, i32_w]
         rfl
       refine pz 13 (some 65) (v := undef) (a' := ?_) rfl rfl (by kernel_rfl) (fun _ _ _ h => h) (Or.inr ⟨by rfl, rfl⟩) ?_ ?_
       rotate_left
       · simp only [Act.put, List.setIfInBounds_toArray, List.set_cons_zero, List.set_cons_succ, i64_w, i32_w]
         rfl
       refine pz 14 (some 66) (v := undef) (a' := ?_) rfl rfl (by kernel_rfl) (fun _ _ _ h => h) (Or.inr ⟨by rfl, rfl⟩) ?_ ?_
       rotate_left
       · simp only [Act.put, List.setIfInBounds_toArray, List.set_cons_zero, List.set_cons_succ, i64_w, i32_w]
         rfl
       refine pz 15 (some 67) (v := undef) (a' := ?_) rfl rfl (by kernel_rfl) (fun _ _ _ h => h) (Or.inr ⟨by rfl, rfl⟩) ?_ ?_
       rotate_left
       · simp only [Act.put, List.setIfInBounds_toArray, List.set_cons_zero, List.set_cons_succ, i64_w, i32_w]
         rfl
       refine pz 16 (some 68) (v := undef) (a' := ?_) rfl rfl (by kernel_rfl) (fun _ _ _ h => h) (Or.inr ⟨by rfl, rfl⟩) ?_ ?_
       rotate_left
       · simp only [Act.put, List.setIfInBounds_toArray, List.set_cons_zero, List.set_cons_succ, i64_w, i32_w]
         rfl
       refine pz 17 (some 69) (v := undef) (a' := ?_) rfl rfl (by kernel_rfl) (fun _ _ _ h => h) (Or.inr ⟨by rfl, rfl⟩) ?_ ?_
       rotate_left
       · simp only [Act.put, List.setIfInBounds_toArray, List.set_cons_zero, List.set_cons_succ, i64_w, i32_w]
         rfl
       refine pz 18 (some 70) (v := undef) (a' := ?_) rfl rfl (by kernel_rfl) (fun _ _ _ h => h) (Or.inr ⟨by rfl, rfl⟩) ?_ ?_
       rotate_left
       · simp only [Act.put, List.setIfInBounds_toArray, List.set_cons_zero, List.set_cons_succ, i64_w, i32_w]
         rfl
       refine pz 19 (some 71) (v := undef) (a' := ?_) rfl rfl (by kernel_rfl) (fun _ _ _ h => h) (Or.inr ⟨by rfl, rfl⟩) ?_ ?_
       rotate_left
       · simp only [Act.put, List.setIfInBounds_toArray, List.set_cons_zero, List.set_cons_succ, i64_w, i32_w]
         rfl
       refine pz 20 (some 72) (v := undef) (a' := ?_) rfl rfl (by kernel_rfl) (fun _ _ _ h => h) (Or.inr ⟨by rfl, rfl⟩) ?_ ?_
       rotate_left
       · simp only [Act.put, List.setIfInBounds_toArray, List.set_cons_zero, List.set_cons_succ, i64_w, i32_w]
         rfl
       refine pz 21 (some 73) (v := ?_) (a' := ?_) rfl rfl (by kernel_rfl) (fun _ _ _ h => h) (Or.inl ⟨by rfl, ?_⟩) ?_ ?_
       rotate_left
       · intro w'
         go_simp
         with_reducible rfl
       rotate_left
       · simp only [Act.put, List.setIfInBounds_toArray, List.set_cons_zero, List.set_cons_succ, i64_w, i32_w]
         rfl
       refine done_ (by kernel_rfl) ?_
       clear q4_0 q4_1 z4_0 z4_1 q5_0 q5_1 q5_2 q5_3 q5_4 q5_5 q5_6 q5_7 z5_0 z5_1 z5_2 z5_3 z5_4 z5_5 z5_6 z5_7 qe0 qe1
       obtain ⟨W78_, hW80_⟩ : ∃ W, W = W69_.drew := ⟨_, rfl⟩
       have HS79_ : Aside0 (KitW.St w W78_ [Box g19_ #[.slice (some ⟨g12_, 0, none⟩) l0.length l0.length, .slice (some ⟨g13_, 0, none⟩) l1.length l1.length, .slice (some ⟨g14_, 0, none⟩) l2.length l2.length] 66, Box g14_ (iv D2) 3, Box g13_ (iv D1) 3, Box g12_ (iv D0) 3, Box g32_ #[.int .i64 x25_.f0, .slice a27_ x25_.f1.length c28_] 54, Box g4_ #[.slice A0 l0.length c0, .slice A1 l1.length c1, .slice A2 l2.length c2, .int .i64 h, .int .i64 ce, .int .i64 s, .int .i64 st, .slice (some a24_) ds.length c7] 26]) := by rw [hW80_]; exact ⟨by simpa using HS70_.out.drew⟩
       rw [← hW80_]
       clear hW80_ HS70_
       have qe0 : W78_.cell? (a24_.add ((i).toNat * 2)) = some (.int .i64 x25_.f0) := pw_cell_below HS79_.out.B E26_F0.out
       have qe1 : W78_.cell? ⟨(a24_.add ((i).toNat * 2)).block, (a24_.add ((i).toNat * 2)).off + 1, none⟩ = some (.slice a27_ x25_.f1.length c28_) := pw_cell_below HS79_.out.B E26_F1.out
       go_wp2
       go_ret
       exact ⟨by unfold canR; rw [if_pos c6_A.out, ← HI.out, rd54_drop hi (by omega) Hx25_.out]; simp only [cnR]; rw [if_neg (fun h_ => by rw [c34_A.out] at h_; cases h_.1)]; try rfl, HS79_.out.B⟩
    ·
     have c23_1 : decide (i < ((ds.length : Nat) : Int)) = false := by simpa using c23_
     have c23_2 : ((ds.length : Nat) : Int) ≤ i := by omega
     have c23_A := Aside0.mk c23_2
     clear c23_
     by_cases c81_ : (d0.any isZ) = true
     ·
      have c81_A := Aside0.mk c81_
      clear c81_
      obtain ⟨q0_0, q0_1, q0_2, z0_0, z0_1, z0_2⟩ := HSr.out.c3 0 rfl
      obtain ⟨q4_0, q4_1, q4_2, q4_3, q4_4, q4_5, q4_6, q4_7, z4_0, z4_1, z4_2, z4_3, z4_4, z4_5, z4_6, z4_7⟩ := HSr.out.c8 4 rfl
      go_wp2_with (go_at_call 28; refine stop ?_)
      refine Stop.mk ?_
      refine (none_len hd0 (iv_C HSr.out 3 rfl (by omega))).mono ?_
      rintro e W ⟨rfl, hw_⟩
      rw [hw_]
      clear hw_ W
      rw [c81_A.out]
      by_cases c82_ : (d1.any isZ) = true
      ·
       have c82_A := Aside0.mk c82_
       clear c82_
       go_wp2_with (go_at_call 28; refine stop ?_)
       refine Stop.mk ?_
       refine (none_len hd1 (iv_C HSr.out 2 rfl (by omega))).mono ?_
       rintro e W ⟨rfl, hw_⟩
       rw [hw_]
       clear hw_ W
       rw [c82_A.out]
       by_cases c83_ : (d2.any isZ) = true
       ·
        have c83_A := Aside0.mk c83_
        clear c83_
        go_wp2_with (go_at_call 28; refine stop ?_)
        refine Stop.mk ?_
        refine (none_len hd2 (iv_C HSr.out 1 rfl (by omega))).mono ?_
        rintro e W ⟨rfl, hw_⟩
        rw [hw_]
        clear hw_ W
        rw [c83_A.out]
        go_wp2
        go_ret
        exact ⟨by unfold canR; rw [if_pos c6_A.out, ← HI.out, List.drop_of_length_le (by omega)]; simp only [cnR]; rw [if_pos c81_A.out]; try rfl, HSr.out.B⟩
       ·
        have c83_A := Aside0.mk (Bool.eq_false_iff.2 c83_)
        clear c83_
        go_wp2_with (go_at_call 28; refine stop ?_)
        refine Stop.mk ?_
        refine (none_len hd2 (iv_C HSr.out 1 rfl (by omega))).mono ?_
        rintro e W ⟨rfl, hw_⟩
        rw [hw_]
        clear hw_ W
        rw [c83_A.out]
        go_wp2
        go_ret
        exact ⟨by unfold canR; rw [if_pos c6_A.out, ← HI.out, List.drop_of_length_le (by omega)]; simp only [cnR]; rw [if_pos c81_A.out]; try rfl, HSr.out.B⟩
      ·
       have c82_A := Aside0.mk (Bool.eq_false_iff.2 c82_)
       clear c82_
       go_wp2_with (go_at_call 28; refine stop ?_)
       refine Stop.mk ?_
       refine (none_len hd1 (iv_C HSr.out 2 rfl (by omega))).mono ?_
       rintro e W ⟨rfl, hw_⟩
       rw [hw_]
       clear hw_ W
       rw [c82_A.out]
       by_cases c84_ : (d2.any isZ) = true
       ·
        have c84_A := Aside0.mk c84_
        clear c84_
        go_wp2_with (go_at_call 28; refine stop ?_)
        refine Stop.mk ?_
        refine (none_len hd2 (iv_C HSr.out 1 rfl (by omega))).mono ?_
        rintro e W ⟨rfl, hw_⟩
        rw [hw_]
        clear hw_ W
        rw [c84_A.out]
        go_wp2
        go_ret
        exact ⟨by unfold canR; rw [if_pos c6_A.out, ← HI.out, List.drop_of_length_le (by omega)]; simp only [cnR]; rw [if_pos c81_A.out]; try rfl, HSr.out.B⟩
       ·
        have c84_A := Aside0.mk (Bool.eq_false_iff.2 c84_)
        clear c84_
        go_wp2_with (go_at_call 28; refine stop ?_)
        refine Stop.mk ?_
        refine (none_len hd2 (iv_C HSr.out 1 rfl (by omega))).mono ?_
        rintro e W ⟨rfl, hw_⟩
        rw [hw_]
        clear hw_ W
        rw [c84_A.out]
        go_wp2
        go_ret
        exact ⟨by unfold canR; rw [if_pos c6_A.out, ← HI.out, List.drop_of_length_le (by omega)]; simp only [cnR]; rw [if_pos c81_A.out]; try rfl, HSr.out.B⟩
     ·
      have c81_A := Aside0.mk (Bool.eq_false_iff.2 c81_)
      clear c81_
      obtain ⟨q0_0, q0_1, q0_2, z0_0, z0_1, z0_2⟩ := HSr.out.c3 0 rfl
      obtain ⟨q4_0, q4_1, q4_2, q4_3, q4_4, q4_5, q4_6, q4_7, z4_0, z4_1, z4_2, z4_3, z4_4, z4_5, z4_6, z4_7⟩ := HSr.out.c8 4 rfl
      go_wp2_with (go_at_call 28; refine stop ?_)
      refine Stop.mk ?_
      refine (none_len hd0 (iv_C HSr.out 3 rfl (by omega))).mono ?_
      rintro e W ⟨rfl, hw_⟩
      rw [hw_]
      clear hw_ W
      rw [c81_A.out]
      by_cases c85_ : (d1.any isZ) = true
      ·
       have c85_A := Aside0.mk c85_
       clear c85_
       go_wp2_with (go_at_call 28; refine stop ?_)
       refine Stop.mk ?_
       refine (none_len hd1 (iv_C HSr.out 2 rfl (by omega))).mono ?_
       rintro e W ⟨rfl, hw_⟩
       rw [hw_]
       clear hw_ W
       rw [c85_A.out]
       by_cases c86_ : (d2.any isZ) = true
       ·
        have c86_A := Aside0.mk c86_
        clear c86_
        go_wp2_with (go_at_call 28; refine stop ?_)
        refine Stop.mk ?_
        refine (none_len hd2 (iv_C HSr.out 1 rfl (by omega))).mono ?_
        rintro e W ⟨rfl, hw_⟩
        rw [hw_]
        clear hw_ W
        rw [c86_A.out]
        go_wp2
        go_ret
        exact ⟨by unfold canR; rw [if_pos c6_A.out, ← HI.out, List.drop_of_length_le (by omega)]; simp only [cnR]; rw [if_neg (by rw [c81_A.out]; simp), if_pos c85_A.out]; try rfl, HSr.out.B⟩
       ·
        have c86_A := Aside0.mk (Bool.eq_false_iff.2 c86_)
        clear c86_
        go_wp2_with (go_at_call 28; refine stop ?_)
        refine Stop.mk ?_
        refine (none_len hd2 (iv_C HSr.out 1 rfl (by omega))).mono ?_
        rintro e W ⟨rfl, hw_⟩
        rw [hw_]
        clear hw_ W
        rw [c86_A.out]
        go_wp2
        go_ret
        exact ⟨by unfold canR; rw [if_pos c6_A.out, ← HI.out, List.drop_of_length_le (by omega)]; simp only [cnR]; rw [if_neg (by rw [c81_A.out]; simp), if_pos c85_A.out]; try rfl, HSr.out.B⟩
      ·
       have c85_A := Aside0.mk (Bool.eq_false_iff.2 c85_)
       clear c85_
       go_wp2_with (go_at_call 28; refine stop ?_)
       refine Stop.mk ?_
       refine (none_len hd1 (iv_C HSr.out 2 rfl (by omega))).mono ?_
       rintro e W ⟨rfl, hw_⟩
       rw [hw_]
       clear hw_ W
       rw [c85_A.out]
       by_cases c87_ : (d2.any isZ) = true
       ·
        have c87_A := Aside0.mk c87_
        clear c87_
        go_wp2_with (go_at_call 28; refine stop ?_)
        refine Stop.mk ?_
        refine (none_len hd2 (iv_C HSr.out 1 rfl (by omega))).mono ?_
        rintro e W ⟨rfl, hw_⟩
        rw [hw_]
        clear hw_ W
        rw [c87_A.out]
        go_wp2
        go_ret
        exact ⟨by unfold canR; rw [if_pos c6_A.out, ← HI.out, List.drop_of_length_le (by omega)]; simp only [cnR]; rw [if_neg (by rw [c81_A.out]; simp), if_neg (by rw [c85_A.out]; simp), if_pos c87_A.out]; try rfl, HSr.out.B⟩
       ·
        have c87_A := Aside0.mk (Bool.eq_false_iff.2 c87_)
        clear c87_
        go_wp2_with (go_at_call 28; refine stop ?_)
        refine Stop.mk ?_
        refine (none_len hd2 (iv_C HSr.out 1 rfl (by omega))).mono ?_
        rintro e W ⟨rfl, hw_⟩
        rw [hw_]
        clear hw_ W
        rw [c87_A.out]
        by_cases c88_ : 262144 < n
        ·
         have c88_A := Aside0.mk c88_
         have c88_1 : decide (262144 < n) = true := by simpa using c88_
         go_wp2
         go_ret
         exact ⟨by unfold canR; rw [if_pos c6_A.out, ← HI.out, List.drop_of_length_le (by omega)]; simp only [cnR]; rw [if_neg (by rw [c81_A.out]; simp), if_neg (by rw [c85_A.out]; simp), if_neg (by rw [c87_A.out]; simp), if_pos (by omega)]; try rfl, HSr.out.B⟩
        ·
         have c88_1 : decide (262144 < n) = false := by simpa using c88_
         have c88_2 : n ≤ 262144 := by omega
         have c88_A := Aside0.mk c88_2
         clear c88_
         go_wp2
         go_ret
         exact ⟨by unfold canR; rw [if_pos c6_A.out, ← HI.out, List.drop_of_length_le (by omega)]; simp only [cnR]; rw [if_neg (by rw [c81_A.out]; simp), if_neg (by rw [c85_A.out]; simp), if_neg (by rw [c87_A.out]; simp), if_neg (by omega)]; try rfl, HSr.out.B⟩
  ·
   have c6_A := Aside0.mk (Bool.eq_false_iff.2 c6_)
   clear c6_
   obtain ⟨q0_0, q0_1, q0_2, q0_3, q0_4, q0_5, q0_6, q0_7, z0_0, z0_1, z0_2, z0_3, z0_4, z0_5, z0_6, z0_7⟩ := HS2_.out.c8 0 rfl
   go_wp2_with (go_at_call 25; refine stop ?_)
   refine Stop.mk ?_
   refine (listsR_calls A0 c0 l0 A1 c1 l1 A2 c2 l2 h ce s st A7 ds.length c7 _ (Kd.C_below R0.out HS2_.out.B) (Kd.C_below R1.out HS2_.out.B) (Kd.C_below R2.out HS2_.out.B) Z0.out).mono ?_
   rintro e W89_ ⟨rfl, k91_⟩
   clear q0_0 q0_1 q0_2 q0_3 q0_4 q0_5 q0_6 q0_7 z0_0 z0_1 z0_2 z0_3 z0_4 z0_5 z0_6 z0_7
   have HS90_ := Aside0.mk (HS2_.out.below k91_)
   clear k91_ HS2_
   rw [c6_A.out]
   obtain ⟨q0_0, q0_1, q0_2, q0_3, q0_4, q0_5, q0_6, q0_7, z0_0, z0_1, z0_2, z0_3, z0_4, z0_5, z0_6, z0_7⟩ := HS90_.out.c8 0 rfl
   go_wp2
   go_ret
   exact ⟨by unfold canR; rw [if_neg (by rw [c6_A.out]; simp)]; try rfl, HS90_.out.B⟩
end Cn
end Go.Proofs.YtmhndfnmdkeiaaaDoor
