/- Canon of the program: walked. No condition beyond the tables as they are laid. -/
import Derived.Test.YtmhndfnmdkeiaaaDoorCd
import Derived.Test.YtmhndfnmdkeiaaaDoorCb
import Derived.Test.YtmhndfnmdkeiaaaDoorCa
import Derived.Test.YtmhndfnmdkeiaaaDoorCc
import Derived.Outline
namespace Go.Proofs.YtmhndfnmdkeiaaaDoor
open Go.RowKit Go.Proofs.YtmhndfnmdkeiaaaDoorW.PrintWords Go.Proofs.YtmhndfnmdkeiaaaDoorW.PrintLast Go.Proofs.YtmhndfnmdkeiaaaDoorW.PrintMore
open KitW PEqual
namespace Cn
set_option linter.unusedSimpArgs false
set_option linter.unusedVariables false
attribute [local go_sem] max2_int min2_int max_two min_two max_three min_three max_four min_four

theorem p102 {w W : World} {a b : Asn} {R : List Asn} (h : KitW.St w W (a :: b :: R)) : KitW.St w W (b :: a :: R) := St.rot [a] [b] h
theorem p120 {w W : World} {a b c : Asn} {R : List Asn} (h : KitW.St w W (a :: b :: c :: R)) : KitW.St w W (b :: c :: a :: R) := St.rot [a] [b, c] h
theorem p201 {w W : World} {a b c : Asn} {R : List Asn} (h : KitW.St w W (a :: b :: c :: R)) : KitW.St w W (c :: a :: b :: R) := St.rot [a, b] [c] h
theorem p021 {w W : World} {a b c : Asn} {R : List Asn} (h : KitW.St w W (a :: b :: c :: R)) : KitW.St w W (a :: c :: b :: R) := p102 (p201 h)
theorem p210 {w W : World} {a b c : Asn} {R : List Asn} (h : KitW.St w W (a :: b :: c :: R)) : KitW.St w W (c :: b :: a :: R) := p201 (p102 h)
def cnI (m0 m1 m2 : Nat) (h ce s : Int) : List S54 → Int → Int → List Bool → List Bool → List Bool → Option (List Bool × List Bool × List Bool)
  | [], _, _, b0, b1, b2 => some (b0, b1, b2)
  | d :: ds, n, last, b0, b1, b2 => if d.f0 ≤ last then none else if h < d.f0 then none else if 262144 < n + (d.f1.length : Int) then none else if dayB m0 m1 m2 ce s d.f1 = true then cnI m0 m1 m2 h ce s ds (n + (d.f1.length : Int)) d.f0 (use 3 d.f1 b0) (use 28 d.f1 b1) (use 1 d.f1 b2) else none
def canI (l0 l1 : List ByteArray) (l2 : List Int) (h ce s st : Int) (ds : List S54) : Int :=
  if lstB l0 l1 l2 h ce s st = true then
    match cnI l0.length l1.length l2.length h ce s ds 0 (-1) (List.replicate l0.length false) (List.replicate l1.length false) (List.replicate l2.length false) with
    | none => 121
    | some (d0, d1, d2) => if d0.any isF = true then 121 else if d1.any isF = true then 121 else if d2.any isF = true then 121 else 0
  else 121
theorem rd54_drop {ds : List S54} {i : Int} {x : S54} (h0 : 0 ≤ i) (h1 : i < (ds.length : Int)) (hx : x = rd_T54 ds i) : ds.drop i.toNat = x :: ds.drop (i + 1).toNat := by
  have h2 : i.toNat < ds.length := by omega
  rw [List.drop_eq_getElem_cons h2, show (i + 1).toNat = i.toNat + 1 from by omega]
  rw [hx]
  unfold rd_T54
  rw [List.getD_eq_getElem?_getD, List.getElem?_eq_getElem h2, Option.getD_some]
theorem rd54_mem {ds : List S54} {i : Int} {x : S54} (h0 : 0 ≤ i) (h1 : i < (ds.length : Int)) (hx : x = rd_T54 ds i) : x ∈ ds := by
  have h2 : i.toNat < ds.length := by omega
  rw [hx]
  unfold rd_T54
  rw [List.getD_eq_getElem?_getD, List.getElem?_eq_getElem h2, Option.getD_some]
  exact List.getElem_mem _
theorem lstB_len {l0 l1 : List ByteArray} {l2 : List Int} {h ce s st : Int} (hh : lstB l0 l1 l2 h ce s st = true) : l0.length ≤ 64 ∧ l1.length ≤ 4096 ∧ l2.length ≤ 16384 := by
  unfold lstB at hh
  simp only [Bool.and_eq_true, decide_eq_true_eq] at hh
  omega
theorem coB_len {A0 : Option Addr} {c0 n : Nat} {l : List Bool} {w : World} (hn : l.length = n) (hr : Kd.C Kd.bool w A0 l.length l) : Calls Tryd.prog 24 #[.slice A0 n c0, .bool false] w fun e w' => e = .returned (.bool (l.any isF)) ∧ w' = w := by
  subst hn
  exact coB_calls A0 c0 l w hr
set_option maxRecDepth 100000 in
set_option maxHeartbeats 4000000 in
theorem canI_calls (A0 : Option Addr) (c0 : Nat) (l0 : List ByteArray) (A1 : Option Addr) (c1 : Nat) (l1 : List ByteArray) (A2 : Option Addr) (c2 : Nat) (l2 : List Int) (h ce s st : Int) (A7 : Option Addr) (c7 : Nat) (ds : List S54) (w : World) (r0 : Kd.C Kd.string w A0 l0.length l0) (r1 : Kd.C Kd.string w A1 l1.length l1) (r2 : Kd.C (Kd.int .i64) w A2 l2.length l2) (r7 : k54.C w A7 ds.length ds) (lk : Lk w) (hb : ∀ d ∈ ds, d.f1.length ≤ 140737488351232) : Calls Tryd.prog 9 #[.agg #[.slice A0 l0.length c0, .slice A1 l1.length c1, .slice A2 l2.length c2, .int .i64 h, .int .i64 ce, .int .i64 s, .int .i64 st, .slice A7 ds.length c7]] w fun e w' => e = .returned (.int .i64 (canI l0 l1 l2 h ce s st ds)) ∧ Below w.heap.size w w' := by
  have R0 := Aside0.mk r0
  have R1 := Aside0.mk r1
  have R2 := Aside0.mk r2
  have m0 := C_max r0
  have m1 := C_max r1
  have m2 := C_max r2
  have R7 := Aside0.mk r7
  have m7 := C_max r7
  have LK := Aside0.mk lk
  have HB := Aside0.mk hb
  clear r0 r1 r2 r7 lk hb
  have HS0 := Aside0.mk (St.start w)
  go_enter Tryd.func9, Tryd.ntmps9
  go_upto_region 1 with (fail)
  obtain ⟨W1_, hW3_⟩ : ∃ W, W = (w.alloc (.cells #[.slice A0 l0.length c0, .slice A1 l1.length c1, .slice A2 l2.length c2, .int .i64 h, .int .i64 ce, .int .i64 s, .int .i64 st, .slice A7 ds.length c7] 26 (0, 0))) := ⟨_, rfl⟩
  obtain ⟨g4_, hg5_⟩ : ∃ g, g = w.heap.size := ⟨_, rfl⟩
  have HS2_ : Aside0 (KitW.St w W1_ [Box g4_ #[.slice A0 l0.length c0, .slice A1 l1.length c1, .slice A2 l2.length c2, .int .i64 h, .int .i64 ce, .int .i64 s, .int .i64 st, .slice A7 ds.length c7] 26]) := by rw [hW3_, hg5_]; exact ⟨by simpa using (HS0.out.allocF #[.slice A0 l0.length c0, .slice A1 l1.length c1, .slice A2 l2.length c2, .int .i64 h, .int .i64 ce, .int .i64 s, .int .i64 st, .slice A7 ds.length c7] 26)⟩
  rw [← hW3_, ← hg5_]
  clear hW3_ hg5_ HS0
  by_cases c6_ : (lstB l0 l1 l2 h ce s st) = true
  ·
   have c6_A := Aside0.mk c6_
   clear c6_
   obtain ⟨q0_0, q0_1, q0_2, q0_3, q0_4, q0_5, q0_6, q0_7, z0_0, z0_1, z0_2, z0_3, z0_4, z0_5, z0_6, z0_7⟩ := HS2_.out.c8 0 rfl
   go_wp2_with (go_at_call 22; refine stop ?_)
   refine Stop.mk ?_
   refine (lists_calls A0 c0 l0 A1 c1 l1 A2 c2 l2 h ce s st A7 ds.length c7 _ (Kd.C_below R0.out HS2_.out.B) (Kd.C_below R1.out HS2_.out.B) (Kd.C_below R2.out HS2_.out.B)).mono ?_
   rintro e W7_ ⟨rfl, k9_⟩
   clear q0_0 q0_1 q0_2 q0_3 q0_4 q0_5 q0_6 q0_7 z0_0 z0_1 z0_2 z0_3 z0_4 z0_5 z0_6 z0_7
   have HS8_ := Aside0.mk (HS2_.out.below k9_)
   clear k9_ HS2_
   rw [c6_A.out]
   have hlm := lstB_len c6_A.out
   have HS10_ := Aside0.mk HS8_.out.drew
   obtain ⟨q0_0, q0_1, q0_2, q0_3, q0_4, q0_5, q0_6, q0_7, z0_0, z0_1, z0_2, z0_3, z0_4, z0_5, z0_6, z0_7⟩ := HS8_.out.c8 0 rfl
   go_wp2
   refine start_ (n := 15) (S := fun w' => w'.cell? ⟨g4_, 0, none⟩ = some (.slice A0 l0.length c0) ∧ w'.cell? ⟨g4_, 1, none⟩ = some (.slice A1 l1.length c1) ∧ w'.cell? ⟨g4_, 2, none⟩ = some (.slice A2 l2.length c2)) (ds := [13]) #[false, false, false, false, false, false, false, false, false, false, false, false, false, false, false] (by kernel_rfl) rfl rfl ⟨(by go_simp), (by go_simp), (by go_simp)⟩ (fun hHeld => ?_)
   refine pz 0 (some 13) (v := ?_) (a' := ?_) rfl rfl (by kernel_rfl) (fun _ _ _ h => h) (Or.inl ⟨by rfl, ?_⟩) ?_ ?_
   rotate_left
   · intro w'
     go_simp
     with_reducible rfl
   rotate_left
   · simp only [Act.put, List.setIfInBounds_toArray, List.set_cons_zero, List.set_cons_succ, i64_w, i32_w]
     rfl
   refine pz 4 (some 17) (v := ?_) (a' := ?_) rfl rfl (by kernel_rfl) (fun _ _ _ h => h) (Or.inl ⟨by rfl, ?_⟩) ?_ ?_
   rotate_left
   · intro w'
     go_simp
     with_reducible rfl
   rotate_left
   · simp only [Act.put, List.setIfInBounds_toArray, List.set_cons_zero, List.set_cons_succ, i64_w, i32_w]
     rfl
   refine pz 8 (some 21) (v := ?_) (a' := ?_) rfl rfl (by kernel_rfl) (fun _ _ _ h => h) (Or.inl ⟨by rfl, ?_⟩) ?_ ?_
   rotate_left
   · intro w'
     go_simp
     with_reducible rfl
   rotate_left
   · simp only [Act.put, List.setIfInBounds_toArray, List.set_cons_zero, List.set_cons_succ, i64_w, i32_w]
     rfl
   refine tz 1 (some 14) (v := ?_) (a' := ?_) rfl rfl (by kernel_rfl) (fun _ _ _ h => h) (Or.inl ⟨by rfl, ?_⟩) hHeld ?_ ?_
   rotate_left
   · rintro w' ⟨s0, s1, s2⟩
     go_simp
     with_reducible rfl
   rotate_left
   · simp only [Act.put, List.setIfInBounds_toArray, List.set_cons_zero, List.set_cons_succ, i64_w, i32_w]
     rfl
   refine pz 2 (some 15) (v := ?_) (a' := ?_) rfl rfl (by kernel_rfl) (fun _ _ _ h => h) (Or.inl ⟨by rfl, ?_⟩) ?_ ?_
   rotate_left
   · intro w'
     go_simp
     with_reducible rfl
   rotate_left
   · simp only [Act.put, List.setIfInBounds_toArray, List.set_cons_zero, List.set_cons_succ, i64_w, i32_w]
     rfl
   refine tz 5 (some 18) (v := ?_) (a' := ?_) rfl rfl (by kernel_rfl) (fun _ _ _ h => h) (Or.inl ⟨by rfl, ?_⟩) hHeld ?_ ?_
   rotate_left
   · rintro w' ⟨s0, s1, s2⟩
     go_simp
     with_reducible rfl
   rotate_left
   · simp only [Act.put, List.setIfInBounds_toArray, List.set_cons_zero, List.set_cons_succ, i64_w, i32_w]
     rfl
   refine pz 6 (some 19) (v := ?_) (a' := ?_) rfl rfl (by kernel_rfl) (fun _ _ _ h => h) (Or.inl ⟨by rfl, ?_⟩) ?_ ?_
   rotate_left
   · intro w'
     go_simp
     with_reducible rfl
   rotate_left
   · simp only [Act.put, List.setIfInBounds_toArray, List.set_cons_zero, List.set_cons_succ, i64_w, i32_w]
     rfl
   refine tz 9 (some 22) (v := ?_) (a' := ?_) rfl rfl (by kernel_rfl) (fun _ _ _ h => h) (Or.inl ⟨by rfl, ?_⟩) hHeld ?_ ?_
   rotate_left
   · rintro w' ⟨s0, s1, s2⟩
     go_simp
     with_reducible rfl
   rotate_left
   · simp only [Act.put, List.setIfInBounds_toArray, List.set_cons_zero, List.set_cons_succ, i64_w, i32_w]
     rfl
   refine pz 10 (some 23) (v := ?_) (a' := ?_) rfl rfl (by kernel_rfl) (fun _ _ _ h => h) (Or.inl ⟨by rfl, ?_⟩) ?_ ?_
   rotate_left
   · intro w'
     go_simp
     with_reducible rfl
   rotate_left
   · simp only [Act.put, List.setIfInBounds_toArray, List.set_cons_zero, List.set_cons_succ, i64_w, i32_w]
     rfl
   refine join_ (σ := Nat × Nat × Nat) 3 #[true, true, true, true, true, true, true, true, true, true, true, true, false, false, false] (fun z_ => [(16, .slice (some ⟨z_.1, 0, none⟩) l0.length l0.length), (20, .slice (some ⟨z_.2.1, 0, none⟩) l1.length l1.length), (24, .slice (some ⟨z_.2.2, 0, none⟩) l2.length l2.length)]) (fun z_ w' => KitW.St w w' (Box z_.2.2 (bv (List.replicate l2.length false)) 4 :: Box z_.2.1 (bv (List.replicate l1.length false)) 4 :: Box z_.1 (bv (List.replicate l0.length false)) 4 :: [Box g4_ #[.slice A0 l0.length c0, .slice A1 l1.length c1, .slice A2 l2.length c2, .int .i64 h, .int .i64 ce, .int .i64 s, .int .i64 st, .slice A7 ds.length c7] 26])) ?_ ?_
   rotate_left
   · intro hCont
     refine three_ (i := 3) (j := 7) (k := 11) (Ni := some 16) (Nj := some 20) (Nk := some 24) #[true, true, true, true, true, true, true, false, true, true, true, false, false, false, false] #[true, true, true, false, true, true, true, true, true, true, true, false, false, false, false] #[true, true, true, false, true, true, true, false, true, true, true, true, false, false, false] rfl rfl rfl rfl rfl rfl (by kernel_rfl) (by decide) (by decide) (by decide) (fun K hK => ?_) (fun K hK => ?_) (fun K hK => ?_)
     · skip
       refine st_makeN_step HS10_.out 4 (by rfl) 58 (.tmp 15) (.tmp 15) (by rfl) l0.length (by rfl) (by rfl) Tryd.underlying58 (.bool false) 1 (by kernel_rfl) (by omega) (by omega) ?_
       intro g_3 W_3 e_3 hS_3
       rw [made_bv] at hS_3
       refine hK.out _ _ ⟨(hS_3.cell 1 rfl 0), (hS_3.cell 1 rfl 1), (hS_3.cell 1 rfl 2)⟩ (fun hHeld => ?_)
       clear hK K
       refine norm_ (a' := ?_) ?_ ?_
       rotate_left
       · show Act.put _ (some 16) _ = _
         simp only [Act.put, List.setIfInBounds_toArray, List.set_cons_zero, List.set_cons_succ, i64_w, i32_w]
         rfl
       refine two_ (i := 7) (j := 11) (Ni := some 20) (Nj := some 24) #[true, true, true, true, true, true, true, true, true, true, true, false, false, false, false] #[true, true, true, true, true, true, true, false, true, true, true, true, false, false, false] rfl rfl rfl rfl (by kernel_rfl) (by decide) (by decide) (fun K hK => ?_) (fun K hK => ?_)
       · skip
         refine st_makeN_step hS_3 4 (by rfl) 58 (.tmp 19) (.tmp 19) (by rfl) l1.length (by rfl) (by rfl) Tryd.underlying58 (.bool false) 1 (by kernel_rfl) (by omega) (by omega) ?_
         intro g_3_7 W_3_7 e_3_7 hS_3_7
         rw [made_bv] at hS_3_7
         refine hK.out _ _ ⟨(hS_3_7.cell 2 rfl 0), (hS_3_7.cell 2 rfl 1), (hS_3_7.cell 2 rfl 2)⟩ (fun hHeld => ?_)
         clear hK K
         refine norm_ (a' := ?_) ?_ ?_
         rotate_left
         · show Act.put _ (some 20) _ = _
           simp only [Act.put, List.setIfInBounds_toArray, List.set_cons_zero, List.set_cons_succ, i64_w, i32_w]
           rfl
         refine one_ (i := 11) (N := some 24) #[true, true, true, true, true, true, true, true, true, true, true, true, false, false, false] rfl rfl (by kernel_rfl) (by decide) (fun K hK => ?_)
         refine st_makeN_step hS_3_7 4 (by rfl) 58 (.tmp 23) (.tmp 23) (by rfl) l2.length (by rfl) (by rfl) Tryd.underlying58 (.bool false) 1 (by kernel_rfl) (by omega) (by omega) ?_
         intro g_3_7_11 W_3_7_11 e_3_7_11 hS_3_7_11
         rw [made_bv] at hS_3_7_11
         refine hK.out _ _ ⟨(hS_3_7_11.cell 3 rfl 0), (hS_3_7_11.cell 3 rfl 1), (hS_3_7_11.cell 3 rfl 2)⟩ (fun hHeld => ?_)
         clear hK K
         refine norm_ (a' := ?_) ?_ ?_
         rotate_left
         · show Act.put _ (some 24) _ = _
           simp only [Act.put, List.setIfInBounds_toArray, List.set_cons_zero, List.set_cons_succ, i64_w, i32_w]
           rfl
         exact norm_ (by simp only [putAll, Act.put, List.setIfInBounds_toArray, List.set_cons_zero, List.set_cons_succ]) (hCont (g_3, g_3_7, g_3_7_11) _ hS_3_7_11)
       · skip
         refine st_makeN_step hS_3 4 (by rfl) 58 (.tmp 23) (.tmp 23) (by rfl) l2.length (by rfl) (by rfl) Tryd.underlying58 (.bool false) 1 (by kernel_rfl) (by omega) (by omega) ?_
         intro g_3_11 W_3_11 e_3_11 hS_3_11
         rw [made_bv] at hS_3_11
         refine hK.out _ _ ⟨(hS_3_11.cell 2 rfl 0), (hS_3_11.cell 2 rfl 1), (hS_3_11.cell 2 rfl 2)⟩ (fun hHeld => ?_)
         clear hK K
         refine norm_ (a' := ?_) ?_ ?_
         rotate_left
         · show Act.put _ (some 24) _ = _
           simp only [Act.put, List.setIfInBounds_toArray, List.set_cons_zero, List.set_cons_succ, i64_w, i32_w]
           rfl
         refine one_ (i := 7) (N := some 20) #[true, true, true, true, true, true, true, true, true, true, true, true, false, false, false] rfl rfl (by kernel_rfl) (by decide) (fun K hK => ?_)
         refine st_makeN_step hS_3_11 4 (by rfl) 58 (.tmp 19) (.tmp 19) (by rfl) l1.length (by rfl) (by rfl) Tryd.underlying58 (.bool false) 1 (by kernel_rfl) (by omega) (by omega) ?_
         intro g_3_11_7 W_3_11_7 e_3_11_7 hS_3_11_7
         rw [made_bv] at hS_3_11_7
         refine hK.out _ _ ⟨(hS_3_11_7.cell 3 rfl 0), (hS_3_11_7.cell 3 rfl 1), (hS_3_11_7.cell 3 rfl 2)⟩ (fun hHeld => ?_)
         clear hK K
         refine norm_ (a' := ?_) ?_ ?_
         rotate_left
         · show Act.put _ (some 20) _ = _
           simp only [Act.put, List.setIfInBounds_toArray, List.set_cons_zero, List.set_cons_succ, i64_w, i32_w]
           rfl
         exact norm_ (by simp only [putAll, Act.put, List.setIfInBounds_toArray, List.set_cons_zero, List.set_cons_succ]) (hCont (g_3, g_3_11_7, g_3_11) _ (p102 hS_3_11_7))
     · skip
       refine st_makeN_step HS10_.out 4 (by rfl) 58 (.tmp 19) (.tmp 19) (by rfl) l1.length (by rfl) (by rfl) Tryd.underlying58 (.bool false) 1 (by kernel_rfl) (by omega) (by omega) ?_
       intro g_7 W_7 e_7 hS_7
       rw [made_bv] at hS_7
       refine hK.out _ _ ⟨(hS_7.cell 1 rfl 0), (hS_7.cell 1 rfl 1), (hS_7.cell 1 rfl 2)⟩ (fun hHeld => ?_)
       clear hK K
       refine norm_ (a' := ?_) ?_ ?_
       rotate_left
       · show Act.put _ (some 20) _ = _
         simp only [Act.put, List.setIfInBounds_toArray, List.set_cons_zero, List.set_cons_succ, i64_w, i32_w]
         rfl
       refine two_ (i := 3) (j := 11) (Ni := some 16) (Nj := some 24) #[true, true, true, true, true, true, true, true, true, true, true, false, false, false, false] #[true, true, true, false, true, true, true, true, true, true, true, true, false, false, false] rfl rfl rfl rfl (by kernel_rfl) (by decide) (by decide) (fun K hK => ?_) (fun K hK => ?_)
       · skip
         refine st_makeN_step hS_7 4 (by rfl) 58 (.tmp 15) (.tmp 15) (by rfl) l0.length (by rfl) (by rfl) Tryd.underlying58 (.bool false) 1 (by kernel_rfl) (by omega) (by omega) ?_
         intro g_7_3 W_7_3 e_7_3 hS_7_3
         rw [made_bv] at hS_7_3
         refine hK.out _ _ ⟨(hS_7_3.cell 2 rfl 0), (hS_7_3.cell 2 rfl 1), (hS_7_3.cell 2 rfl 2)⟩ (fun hHeld => ?_)
         clear hK K
         refine norm_ (a' := ?_) ?_ ?_
         rotate_left
         · show Act.put _ (some 16) _ = _
           simp only [Act.put, List.setIfInBounds_toArray, List.set_cons_zero, List.set_cons_succ, i64_w, i32_w]
           rfl
         refine one_ (i := 11) (N := some 24) #[true, true, true, true, true, true, true, true, true, true, true, true, false, false, false] rfl rfl (by kernel_rfl) (by decide) (fun K hK => ?_)
         refine st_makeN_step hS_7_3 4 (by rfl) 58 (.tmp 23) (.tmp 23) (by rfl) l2.length (by rfl) (by rfl) Tryd.underlying58 (.bool false) 1 (by kernel_rfl) (by omega) (by omega) ?_
         intro g_7_3_11 W_7_3_11 e_7_3_11 hS_7_3_11
         rw [made_bv] at hS_7_3_11
         refine hK.out _ _ ⟨(hS_7_3_11.cell 3 rfl 0), (hS_7_3_11.cell 3 rfl 1), (hS_7_3_11.cell 3 rfl 2)⟩ (fun hHeld => ?_)
         clear hK K
         refine norm_ (a' := ?_) ?_ ?_
         rotate_left
         · show Act.put _ (some 24) _ = _
           simp only [Act.put, List.setIfInBounds_toArray, List.set_cons_zero, List.set_cons_succ, i64_w, i32_w]
           rfl
         exact norm_ (by simp only [putAll, Act.put, List.setIfInBounds_toArray, List.set_cons_zero, List.set_cons_succ]) (hCont (g_7_3, g_7, g_7_3_11) _ (p021 hS_7_3_11))
       · skip
         refine st_makeN_step hS_7 4 (by rfl) 58 (.tmp 23) (.tmp 23) (by rfl) l2.length (by rfl) (by rfl) Tryd.underlying58 (.bool false) 1 (by kernel_rfl) (by omega) (by omega) ?_
         intro g_7_11 W_7_11 e_7_11 hS_7_11
         rw [made_bv] at hS_7_11
         refine hK.out _ _ ⟨(hS_7_11.cell 2 rfl 0), (hS_7_11.cell 2 rfl 1), (hS_7_11.cell 2 rfl 2)⟩ (fun hHeld => ?_)
         clear hK K
         refine norm_ (a' := ?_) ?_ ?_
         rotate_left
         · show Act.put _ (some 24) _ = _
           simp only [Act.put, List.setIfInBounds_toArray, List.set_cons_zero, List.set_cons_succ, i64_w, i32_w]
           rfl
         refine one_ (i := 3) (N := some 16) #[true, true, true, true, true, true, true, true, true, true, true, true, false, false, false] rfl rfl (by kernel_rfl) (by decide) (fun K hK => ?_)
         refine st_makeN_step hS_7_11 4 (by rfl) 58 (.tmp 15) (.tmp 15) (by rfl) l0.length (by rfl) (by rfl) Tryd.underlying58 (.bool false) 1 (by kernel_rfl) (by omega) (by omega) ?_
         intro g_7_11_3 W_7_11_3 e_7_11_3 hS_7_11_3
         rw [made_bv] at hS_7_11_3
         refine hK.out _ _ ⟨(hS_7_11_3.cell 3 rfl 0), (hS_7_11_3.cell 3 rfl 1), (hS_7_11_3.cell 3 rfl 2)⟩ (fun hHeld => ?_)
         clear hK K
         refine norm_ (a' := ?_) ?_ ?_
         rotate_left
         · show Act.put _ (some 16) _ = _
           simp only [Act.put, List.setIfInBounds_toArray, List.set_cons_zero, List.set_cons_succ, i64_w, i32_w]
           rfl
         exact norm_ (by simp only [putAll, Act.put, List.setIfInBounds_toArray, List.set_cons_zero, List.set_cons_succ]) (hCont (g_7_11_3, g_7, g_7_11) _ (p120 hS_7_11_3))
     · skip
       refine st_makeN_step HS10_.out 4 (by rfl) 58 (.tmp 23) (.tmp 23) (by rfl) l2.length (by rfl) (by rfl) Tryd.underlying58 (.bool false) 1 (by kernel_rfl) (by omega) (by omega) ?_
       intro g_11 W_11 e_11 hS_11
       rw [made_bv] at hS_11
       refine hK.out _ _ ⟨(hS_11.cell 1 rfl 0), (hS_11.cell 1 rfl 1), (hS_11.cell 1 rfl 2)⟩ (fun hHeld => ?_)
       clear hK K
       refine norm_ (a' := ?_) ?_ ?_
       rotate_left
       · show Act.put _ (some 24) _ = _
         simp only [Act.put, List.setIfInBounds_toArray, List.set_cons_zero, List.set_cons_succ, i64_w, i32_w]
         rfl
       refine two_ (i := 3) (j := 7) (Ni := some 16) (Nj := some 20) #[true, true, true, true, true, true, true, false, true, true, true, true, false, false, false] #[true, true, true, false, true, true, true, true, true, true, true, true, false, false, false] rfl rfl rfl rfl (by kernel_rfl) (by decide) (by decide) (fun K hK => ?_) (fun K hK => ?_)
       · skip
         refine st_makeN_step hS_11 4 (by rfl) 58 (.tmp 15) (.tmp 15) (by rfl) l0.length (by rfl) (by rfl) Tryd.underlying58 (.bool false) 1 (by kernel_rfl) (by omega) (by omega) ?_
         intro g_11_3 W_11_3 e_11_3 hS_11_3
         rw [made_bv] at hS_11_3
         refine hK.out _ _ ⟨(hS_11_3.cell 2 rfl 0), (hS_11_3.cell 2 rfl 1), (hS_11_3.cell 2 rfl 2)⟩ (fun hHeld => ?_)
         clear hK K
         refine norm_ (a' := ?_) ?_ ?_
         rotate_left
         · show Act.put _ (some 16) _ = _
           simp only [Act.put, List.setIfInBounds_toArray, List.set_cons_zero, List.set_cons_succ, i64_w, i32_w]
           rfl
         refine one_ (i := 7) (N := some 20) #[true, true, true, true, true, true, true, true, true, true, true, true, false, false, false] rfl rfl (by kernel_rfl) (by decide) (fun K hK => ?_)
         refine st_makeN_step hS_11_3 4 (by rfl) 58 (.tmp 19) (.tmp 19) (by rfl) l1.length (by rfl) (by rfl) Tryd.underlying58 (.bool false) 1 (by kernel_rfl) (by omega) (by omega) ?_
         intro g_11_3_7 W_11_3_7 e_11_3_7 hS_11_3_7
         rw [made_bv] at hS_11_3_7
         refine hK.out _ _ ⟨(hS_11_3_7.cell 3 rfl 0), (hS_11_3_7.cell 3 rfl 1), (hS_11_3_7.cell 3 rfl 2)⟩ (fun hHeld => ?_)
         clear hK K
         refine norm_ (a' := ?_) ?_ ?_
         rotate_left
         · show Act.put _ (some 20) _ = _
           simp only [Act.put, List.setIfInBounds_toArray, List.set_cons_zero, List.set_cons_succ, i64_w, i32_w]
           rfl
         exact norm_ (by simp only [putAll, Act.put, List.setIfInBounds_toArray, List.set_cons_zero, List.set_cons_succ]) (hCont (g_11_3, g_11_3_7, g_11) _ (p201 hS_11_3_7))
       · skip
         refine st_makeN_step hS_11 4 (by rfl) 58 (.tmp 19) (.tmp 19) (by rfl) l1.length (by rfl) (by rfl) Tryd.underlying58 (.bool false) 1 (by kernel_rfl) (by omega) (by omega) ?_
         intro g_11_7 W_11_7 e_11_7 hS_11_7
         rw [made_bv] at hS_11_7
         refine hK.out _ _ ⟨(hS_11_7.cell 2 rfl 0), (hS_11_7.cell 2 rfl 1), (hS_11_7.cell 2 rfl 2)⟩ (fun hHeld => ?_)
         clear hK K
         refine norm_ (a' := ?_) ?_ ?_
         rotate_left
         · show Act.put _ (some 20) _ = _
           simp only [Act.put, List.setIfInBounds_toArray, List.set_cons_zero, List.set_cons_succ, i64_w, i32_w]
           rfl
         refine one_ (i := 3) (N := some 16) #[true, true, true, true, true, true, true, true, true, true, true, true, false, false, false] rfl rfl (by kernel_rfl) (by decide) (fun K hK => ?_)
         refine st_makeN_step hS_11_7 4 (by rfl) 58 (.tmp 15) (.tmp 15) (by rfl) l0.length (by rfl) (by rfl) Tryd.underlying58 (.bool false) 1 (by kernel_rfl) (by omega) (by omega) ?_
         intro g_11_7_3 W_11_7_3 e_11_7_3 hS_11_7_3
         rw [made_bv] at hS_11_7_3
         refine hK.out _ _ ⟨(hS_11_7_3.cell 3 rfl 0), (hS_11_7_3.cell 3 rfl 1), (hS_11_7_3.cell 3 rfl 2)⟩ (fun hHeld => ?_)
         clear hK K
         refine norm_ (a' := ?_) ?_ ?_
         rotate_left
         · show Act.put _ (some 16) _ = _
           simp only [Act.put, List.setIfInBounds_toArray, List.set_cons_zero, List.set_cons_succ, i64_w, i32_w]
           rfl
         exact norm_ (by simp only [putAll, Act.put, List.setIfInBounds_toArray, List.set_cons_zero, List.set_cons_succ]) (hCont (g_11_7_3, g_11_7, g_11) _ (p210 hS_11_7_3))
   rintro ⟨g12_, g13_, g14_⟩ W11_ hF_
   have hHeld : W11_.cell? ⟨g4_, 0, none⟩ = some (.slice A0 l0.length c0) ∧ W11_.cell? ⟨g4_, 1, none⟩ = some (.slice A1 l1.length c1) ∧ W11_.cell? ⟨g4_, 2, none⟩ = some (.slice A2 l2.length c2) := ⟨hF_.cell 3 rfl 0, hF_.cell 3 rfl 1, hF_.cell 3 rfl 2⟩
   have HS15_ := Aside0.mk hF_
   clear hF_
   refine norm_ (a' := ?_) ?_ ?_
   rotate_left
   · simp only [putAll, Act.put, List.setIfInBounds_toArray, List.set_cons_zero, List.set_cons_succ]
     rfl
   refine pz 12 (some 25) (v := ?_) (a' := ?_) rfl rfl (by kernel_rfl) (fun _ _ _ h => h) (Or.inl ⟨by rfl, ?_⟩) ?_ ?_
   rotate_left
   · intro w'
     go_simp
     with_reducible rfl
   rotate_left
   · simp only [Act.put, List.setIfInBounds_toArray, List.set_cons_zero, List.set_cons_succ, i64_w, i32_w]
     rfl
   refine last_ (i := 13) (N := some 26) #[true, true, true, true, true, true, true, true, true, true, true, true, true, true, false] rfl rfl (by kernel_rfl) (by decide) (fun K hK => ?_)
   refine value_ (w1 := ?_) (v := ?_) (by rfl) rfl ?_ ?_
   rotate_left 2
   · go_simp
     constructor
     · rfl
     · rfl
   refine hK.out _ _ ?_
   clear hK K
   refine norm_ (a' := ?_) ?_ ?_
   rotate_left
   · show Act.put _ (some 26) _ = _
     simp only [Act.put, List.setIfInBounds_toArray, List.set_cons_zero, List.set_cons_succ, i64_w, i32_w]
     rfl
   refine pz 14 (some 3) (v := ?_) (a' := ?_) rfl rfl (by kernel_rfl) (fun _ _ _ h => h) (Or.inl ⟨by rfl, ?_⟩) ?_ ?_
   rotate_left
   · intro w'
     go_simp
     with_reducible rfl
   rotate_left
   · simp only [Act.put, List.setIfInBounds_toArray, List.set_cons_zero, List.set_cons_succ, i64_w, i32_w]
     rfl
   refine done_ (by kernel_rfl) ?_
   clear q0_0 q0_1 q0_2 q0_3 q0_4 q0_5 q0_6 q0_7 z0_0 z0_1 z0_2 z0_3 z0_4 z0_5 z0_6 z0_7
   clear HS10_
   clear HS8_
   obtain ⟨W16_, hW18_⟩ : ∃ W, W = (W11_.alloc (.cells #[.slice (some ⟨g12_, 0, none⟩) l0.length l0.length, .slice (some ⟨g13_, 0, none⟩) l1.length l1.length, .slice (some ⟨g14_, 0, none⟩) l2.length l2.length] 60 (0, 0))) := ⟨_, rfl⟩
   obtain ⟨g19_, hg20_⟩ : ∃ g, g = W11_.heap.size := ⟨_, rfl⟩
   have HS17_ : Aside0 (KitW.St w W16_ [Box g19_ #[.slice (some ⟨g12_, 0, none⟩) l0.length l0.length, .slice (some ⟨g13_, 0, none⟩) l1.length l1.length, .slice (some ⟨g14_, 0, none⟩) l2.length l2.length] 60, Box g14_ (bv (List.replicate l2.length false)) 4, Box g13_ (bv (List.replicate l1.length false)) 4, Box g12_ (bv (List.replicate l0.length false)) 4, Box g4_ #[.slice A0 l0.length c0, .slice A1 l1.length c1, .slice A2 l2.length c2, .int .i64 h, .int .i64 ce, .int .i64 s, .int .i64 st, .slice A7 ds.length c7] 26]) := by rw [hW18_, hg20_]; exact ⟨by simpa using (HS15_.out.allocF #[.slice (some ⟨g12_, 0, none⟩) l0.length l0.length, .slice (some ⟨g13_, 0, none⟩) l1.length l1.length, .slice (some ⟨g14_, 0, none⟩) l2.length l2.length] 60)⟩
   rw [← hW18_, ← hg20_]
   clear hW18_ hg20_ HS15_
   obtain ⟨q4_0, q4_1, q4_2, q4_3, q4_4, q4_5, q4_6, q4_7, z4_0, z4_1, z4_2, z4_3, z4_4, z4_5, z4_6, z4_7⟩ := HS17_.out.c8 4 rfl
   go_wp2
   clear q4_0 q4_1 q4_2 q4_3 q4_4 q4_5 q4_6 q4_7 z4_0 z4_1 z4_2 z4_3 z4_4 z4_5 z4_6 z4_7
   go_loopg [30, 4, 5, 7] ds.length (fun g v cv lv _ W => ∃ (i n last : Int) (d0 d1 d2 : List Bool), v = .int .i64 i ∧ cv = .int .i64 n ∧ lv = .int .i64 last ∧ 0 ≤ i ∧ (g : Int) + i = (ds.length : Int) ∧ 0 ≤ n ∧ n ≤ 262144 ∧ d0.length = l0.length ∧ d1.length = l1.length ∧ d2.length = l2.length ∧ Aside0 (cnI l0.length l1.length l2.length h ce s (ds.drop i.toNat) n last d0 d1 d2 = cnI l0.length l1.length l2.length h ce s ds 0 (-1) (List.replicate l0.length false) (List.replicate l1.length false) (List.replicate l2.length false)) ∧ Aside0 (St w W [Box g19_ #[.slice (some ⟨g12_, 0, none⟩) l0.length l0.length, .slice (some ⟨g13_, 0, none⟩) l1.length l1.length, .slice (some ⟨g14_, 0, none⟩) l2.length l2.length] 60, Box g14_ (bv d2) 4, Box g13_ (bv d1) 4, Box g12_ (bv d0) 4, Box g4_ #[.slice A0 l0.length c0, .slice A1 l1.length c1, .slice A2 l2.length c2, .int .i64 h, .int .i64 ce, .int .i64 s, .int .i64 st, .slice A7 ds.length c7] 26]))
   case atStart => exact ⟨0, 0, -1, _, _, _, rfl, rfl, rfl, by omega, by omega, by omega, by omega, List.length_replicate, List.length_replicate, List.length_replicate, ⟨rfl⟩, HS17_⟩
   case round =>
    revert wr gk
    intro gk21_ wr22_ hrel hK_
    obtain ⟨i, n, last, d0, d1, d2, rfl, rfl, rfl, hi, hg, hn0, hn1, hd0, hd1, hd2, HI, HSr⟩ := hrel
    by_cases c23_ : i < ((ds.length : Nat) : Int)
    ·
     have c23_A := Aside0.mk c23_
     have c23_1 : decide (i < ((ds.length : Nat) : Int)) = true := by simpa using c23_
     obtain ⟨a24_, rfl⟩ := C_some R7.out (by omega)
     have E26_0 : 0 ≤ i := by omega
     have E26_1 : i < (ds.length : Int) := by omega
     obtain ⟨x25_, hx25_⟩ : ∃ x, x = rd_T54 ds i := ⟨_, rfl⟩
     obtain ⟨E26_ad, a27_, c28_, E26_e, E26_G0, E26_G1, E26_le, E26_R⟩ := at_T54 R7.out i E26_0 E26_1
     cases E26_e
     rw [← hx25_] at E26_G0 E26_G1 E26_le E26_R
     have E26_F0 : Aside0 (w.cell? (a24_.add ((i).toNat * 2)) = some (.int .i64 x25_.f0)) := ⟨E26_G0⟩
     have E26_F1 : Aside0 (w.cell? ⟨(a24_.add ((i).toNat * 2)).block, (a24_.add ((i).toNat * 2)).off + 1, none⟩ = some (.slice a27_ x25_.f1.length c28_)) := ⟨E26_G1⟩
     have E26_RA := Aside0.mk E26_R
     have Hx25_ := Aside0.mk hx25_
     clear hx25_ E26_G0 E26_G1 E26_R
     have qe0 : wr22_.cell? (a24_.add ((i).toNat * 2)) = some (.int .i64 x25_.f0) := pw_cell_below HSr.out.B E26_F0.out
     have qe1 : wr22_.cell? ⟨(a24_.add ((i).toNat * 2)).block, (a24_.add ((i).toNat * 2)).off + 1, none⟩ = some (.slice a27_ x25_.f1.length c28_) := pw_cell_below HSr.out.B E26_F1.out
     go_upto_region 8 with (fail)
     clear qe0 qe1
     obtain ⟨W29_, hW31_⟩ : ∃ W, W = (wr22_.alloc (.cells #[.int .i64 x25_.f0, .slice a27_ x25_.f1.length c28_] 54 (0, 0))) := ⟨_, rfl⟩
     obtain ⟨g32_, hg33_⟩ : ∃ g, g = wr22_.heap.size := ⟨_, rfl⟩
     have HS30_ : Aside0 (KitW.St w W29_ [Box g32_ #[.int .i64 x25_.f0, .slice a27_ x25_.f1.length c28_] 54, Box g19_ #[.slice (some ⟨g12_, 0, none⟩) l0.length l0.length, .slice (some ⟨g13_, 0, none⟩) l1.length l1.length, .slice (some ⟨g14_, 0, none⟩) l2.length l2.length] 60, Box g14_ (bv d2) 4, Box g13_ (bv d1) 4, Box g12_ (bv d0) 4, Box g4_ #[.slice A0 l0.length c0, .slice A1 l1.length c1, .slice A2 l2.length c2, .int .i64 h, .int .i64 ce, .int .i64 s, .int .i64 st, .slice (some a24_) ds.length c7] 26]) := by rw [hW31_, hg33_]; exact ⟨by simpa using (HSr.out.allocF #[.int .i64 x25_.f0, .slice a27_ x25_.f1.length c28_] 54)⟩
     rw [← hW31_, ← hg33_]
     clear hW31_ hg33_ HSr
     have hxb := HB.out _ (rd54_mem hi (by omega) Hx25_.out)
     by_cases c34_ : x25_.f0 ≤ last
     ·
      have c34_A := Aside0.mk c34_
      have c34_1 : decide (x25_.f0 ≤ last) = true := by simpa using c34_
      obtain ⟨q0_0, q0_1, z0_0, z0_1⟩ := HS30_.out.c2 0 rfl
      have qe0 : W29_.cell? (a24_.add ((i).toNat * 2)) = some (.int .i64 x25_.f0) := pw_cell_below HS30_.out.B E26_F0.out
      have qe1 : W29_.cell? ⟨(a24_.add ((i).toNat * 2)).block, (a24_.add ((i).toNat * 2)).off + 1, none⟩ = some (.slice a27_ x25_.f1.length c28_) := pw_cell_below HS30_.out.B E26_F1.out
      go_wp2
      go_ret
      exact ⟨by unfold canI; rw [if_pos c6_A.out, ← HI.out, rd54_drop hi (by omega) Hx25_.out]; simp only [cnI]; rw [if_pos (by omega)]; try rfl, HS30_.out.B⟩
     ·
      have c34_1 : decide (x25_.f0 ≤ last) = false := by simpa using c34_
      have c34_2 : last < x25_.f0 := by omega
      have c34_A := Aside0.mk c34_2
      clear c34_
      by_cases c35_ : h < x25_.f0
      ·
       have c35_A := Aside0.mk c35_
       have c35_1 : decide (h < x25_.f0) = true := by simpa using c35_
       obtain ⟨q0_0, q0_1, z0_0, z0_1⟩ := HS30_.out.c2 0 rfl
       obtain ⟨q5_0, q5_1, q5_2, q5_3, q5_4, q5_5, q5_6, q5_7, z5_0, z5_1, z5_2, z5_3, z5_4, z5_5, z5_6, z5_7⟩ := HS30_.out.c8 5 rfl
       have qe0 : W29_.cell? (a24_.add ((i).toNat * 2)) = some (.int .i64 x25_.f0) := pw_cell_below HS30_.out.B E26_F0.out
       have qe1 : W29_.cell? ⟨(a24_.add ((i).toNat * 2)).block, (a24_.add ((i).toNat * 2)).off + 1, none⟩ = some (.slice a27_ x25_.f1.length c28_) := pw_cell_below HS30_.out.B E26_F1.out
       go_wp2
       go_ret
       exact ⟨by unfold canI; rw [if_pos c6_A.out, ← HI.out, rd54_drop hi (by omega) Hx25_.out]; simp only [cnI]; rw [if_neg (by omega)]; rw [if_pos (by omega)]; try rfl, HS30_.out.B⟩
      ·
       have c35_1 : decide (h < x25_.f0) = false := by simpa using c35_
       have c35_2 : x25_.f0 ≤ h := by omega
       have c35_A := Aside0.mk c35_2
       clear c35_
       by_cases c36_ : 262144 < n + ((x25_.f1.length : Nat) : Int)
       ·
        have c36_A := Aside0.mk c36_
        have c36_1 : decide (262144 < n + ((x25_.f1.length : Nat) : Int)) = true := by simpa using c36_
        obtain ⟨q0_0, q0_1, z0_0, z0_1⟩ := HS30_.out.c2 0 rfl
        obtain ⟨q5_0, q5_1, q5_2, q5_3, q5_4, q5_5, q5_6, q5_7, z5_0, z5_1, z5_2, z5_3, z5_4, z5_5, z5_6, z5_7⟩ := HS30_.out.c8 5 rfl
        have qe0 : W29_.cell? (a24_.add ((i).toNat * 2)) = some (.int .i64 x25_.f0) := pw_cell_below HS30_.out.B E26_F0.out
        have qe1 : W29_.cell? ⟨(a24_.add ((i).toNat * 2)).block, (a24_.add ((i).toNat * 2)).off + 1, none⟩ = some (.slice a27_ x25_.f1.length c28_) := pw_cell_below HS30_.out.B E26_F1.out
        go_wp2
        go_ret
        exact ⟨by unfold canI; rw [if_pos c6_A.out, ← HI.out, rd54_drop hi (by omega) Hx25_.out]; simp only [cnI]; rw [if_neg (by omega)]; rw [if_neg (by omega)]; rw [if_pos (by omega)]; try rfl, HS30_.out.B⟩
       ·
        have c36_1 : decide (262144 < n + ((x25_.f1.length : Nat) : Int)) = false := by simpa using c36_
        have c36_2 : n + ((x25_.f1.length : Nat) : Int) ≤ 262144 := by omega
        have c36_A := Aside0.mk c36_2
        clear c36_
        by_cases c37_ : (dayB l0.length l1.length l2.length ce s x25_.f1) = true
        ·
         have c37_A := Aside0.mk c37_
         clear c37_
         obtain ⟨q0_0, q0_1, z0_0, z0_1⟩ := HS30_.out.c2 0 rfl
         obtain ⟨q5_0, q5_1, q5_2, q5_3, q5_4, q5_5, q5_6, q5_7, z5_0, z5_1, z5_2, z5_3, z5_4, z5_5, z5_6, z5_7⟩ := HS30_.out.c8 5 rfl
         have qe0 : W29_.cell? (a24_.add ((i).toNat * 2)) = some (.int .i64 x25_.f0) := pw_cell_below HS30_.out.B E26_F0.out
         have qe1 : W29_.cell? ⟨(a24_.add ((i).toNat * 2)).block, (a24_.add ((i).toNat * 2)).off + 1, none⟩ = some (.slice a27_ x25_.f1.length c28_) := pw_cell_below HS30_.out.B E26_F1.out
         go_wp2_with (go_at_call 23; refine stop ?_)
         refine Stop.mk ?_
         clear q0_0 q0_1 z0_0 z0_1 q5_0 q5_1 q5_2 q5_3 q5_4 q5_5 q5_6 q5_7 z5_0 z5_1 z5_2 z5_3 z5_4 z5_5 z5_6 z5_7 qe0 qe1
         have HS38_ : Aside0 (KitW.St w W29_ [Box g19_ #[.slice (some ⟨g12_, 0, none⟩) l0.length l0.length, .slice (some ⟨g13_, 0, none⟩) l1.length l1.length, .slice (some ⟨g14_, 0, none⟩) l2.length l2.length] 60, Box g14_ (bv d2) 4, Box g13_ (bv d1) 4, Box g12_ (bv d0) 4, Box g32_ #[.int .i64 x25_.f0, .slice a27_ x25_.f1.length c28_] 54, Box g4_ #[.slice A0 l0.length c0, .slice A1 l1.length c1, .slice A2 l2.length c2, .int .i64 h, .int .i64 ce, .int .i64 s, .int .i64 st, .slice (some a24_) ds.length c7] 26]) := ⟨St.rot [Box g32_ #[.int .i64 x25_.f0, .slice a27_ x25_.f1.length c28_] 54] [Box g19_ #[.slice (some ⟨g12_, 0, none⟩) l0.length l0.length, .slice (some ⟨g13_, 0, none⟩) l1.length l1.length, .slice (some ⟨g14_, 0, none⟩) l2.length l2.length] 60, Box g14_ (bv d2) 4, Box g13_ (bv d1) 4, Box g12_ (bv d0) 4] HS30_.out⟩
         clear HS30_
         refine (day_calls _ _ _ _ _ _ _ _ _ _ _ _ _ _ _ _ _ _ _ _ _ _ _ _ _ _ _ _ _ _ _ _ hd0 hd1 hd2 LK.out E26_RA.out HS38_.out).mono ?_
         rintro e W39_ ⟨D0, D1, D2, hD0, hD1, hD2, rfl, hDU, k41_⟩
         have HS40_ : Aside0 (KitW.St w W39_ [Box g19_ #[.slice (some ⟨g12_, 0, none⟩) l0.length l0.length, .slice (some ⟨g13_, 0, none⟩) l1.length l1.length, .slice (some ⟨g14_, 0, none⟩) l2.length l2.length] 60, Box g14_ (bv D2) 4, Box g13_ (bv D1) 4, Box g12_ (bv D0) 4, Box g32_ #[.int .i64 x25_.f0, .slice a27_ x25_.f1.length c28_] 54, Box g4_ #[.slice A0 l0.length c0, .slice A1 l1.length c1, .slice A2 l2.length c2, .int .i64 h, .int .i64 ce, .int .i64 s, .int .i64 st, .slice (some a24_) ds.length c7] 26]) := ⟨k41_⟩
         clear k41_ HS38_
         rw [c37_A.out]
         have HDU := Aside0.mk hDU
         clear hDU
         obtain ⟨q4_0, q4_1, z4_0, z4_1⟩ := HS40_.out.c2 4 rfl
         have qe0 : W39_.cell? (a24_.add ((i).toNat * 2)) = some (.int .i64 x25_.f0) := pw_cell_below HS40_.out.B E26_F0.out
         have qe1 : W39_.cell? ⟨(a24_.add ((i).toNat * 2)).block, (a24_.add ((i).toNat * 2)).off + 1, none⟩ = some (.slice a27_ x25_.f1.length c28_) := pw_cell_below HS40_.out.B E26_F1.out
         go_wp2
         clear q4_0 q4_1 z4_0 z4_1 qe0 qe1
         have HS42_ : Aside0 (KitW.St w W39_ [Box g32_ #[.int .i64 x25_.f0, .slice a27_ x25_.f1.length c28_] 54, Box g19_ #[.slice (some ⟨g12_, 0, none⟩) l0.length l0.length, .slice (some ⟨g13_, 0, none⟩) l1.length l1.length, .slice (some ⟨g14_, 0, none⟩) l2.length l2.length] 60, Box g14_ (bv D2) 4, Box g13_ (bv D1) 4, Box g12_ (bv D0) 4, Box g4_ #[.slice A0 l0.length c0, .slice A1 l1.length c1, .slice A2 l2.length c2, .int .i64 h, .int .i64 ce, .int .i64 s, .int .i64 st, .slice (some a24_) ds.length c7] 26]) := ⟨St.rot [Box g19_ #[.slice (some ⟨g12_, 0, none⟩) l0.length l0.length, .slice (some ⟨g13_, 0, none⟩) l1.length l1.length, .slice (some ⟨g14_, 0, none⟩) l2.length l2.length] 60, Box g14_ (bv D2) 4, Box g13_ (bv D1) 4, Box g12_ (bv D0) 4] [Box g32_ #[.int .i64 x25_.f0, .slice a27_ x25_.f1.length c28_] 54] HS40_.out⟩
         clear HS40_
         have HS43_ : Aside0 (KitW.St w W39_ [Box g19_ #[.slice (some ⟨g12_, 0, none⟩) l0.length l0.length, .slice (some ⟨g13_, 0, none⟩) l1.length l1.length, .slice (some ⟨g14_, 0, none⟩) l2.length l2.length] 60, Box g14_ (bv D2) 4, Box g13_ (bv D1) 4, Box g12_ (bv D0) 4, Box g4_ #[.slice A0 l0.length c0, .slice A1 l1.length c1, .slice A2 l2.length c2, .int .i64 h, .int .i64 ce, .int .i64 s, .int .i64 st, .slice (some a24_) ds.length c7] 26]) := ⟨HS42_.out.drop 1⟩
         clear HS42_
         go_roundg (gk21_ - 1)
         case measure => omega
         case rel => exact ⟨i + 1, n + (x25_.f1.length : Int), x25_.f0, D0, D1, D2, by go_num, rfl, rfl, by omega, by omega, by omega, by omega, hD0, hD1, hD2, ⟨by rw [← HI.out, rd54_drop hi (by omega) Hx25_.out, (HDU.out c37_A.out).1, (HDU.out c37_A.out).2.1, (HDU.out c37_A.out).2.2]; simp only [cnI]; rw [if_neg (by omega), if_neg (by omega), if_neg (by omega), if_pos c37_A.out]⟩, HS43_⟩
        ·
         have c37_A := Aside0.mk (Bool.eq_false_iff.2 c37_)
         clear c37_
         obtain ⟨q0_0, q0_1, z0_0, z0_1⟩ := HS30_.out.c2 0 rfl
         obtain ⟨q5_0, q5_1, q5_2, q5_3, q5_4, q5_5, q5_6, q5_7, z5_0, z5_1, z5_2, z5_3, z5_4, z5_5, z5_6, z5_7⟩ := HS30_.out.c8 5 rfl
         have qe0 : W29_.cell? (a24_.add ((i).toNat * 2)) = some (.int .i64 x25_.f0) := pw_cell_below HS30_.out.B E26_F0.out
         have qe1 : W29_.cell? ⟨(a24_.add ((i).toNat * 2)).block, (a24_.add ((i).toNat * 2)).off + 1, none⟩ = some (.slice a27_ x25_.f1.length c28_) := pw_cell_below HS30_.out.B E26_F1.out
         go_wp2_with (go_at_call 23; refine stop ?_)
         refine Stop.mk ?_
         clear q0_0 q0_1 z0_0 z0_1 q5_0 q5_1 q5_2 q5_3 q5_4 q5_5 q5_6 q5_7 z5_0 z5_1 z5_2 z5_3 z5_4 z5_5 z5_6 z5_7 qe0 qe1
         have HS44_ : Aside0 (KitW.St w W29_ [Box g19_ #[.slice (some ⟨g12_, 0, none⟩) l0.length l0.length, .slice (some ⟨g13_, 0, none⟩) l1.length l1.length, .slice (some ⟨g14_, 0, none⟩) l2.length l2.length] 60, Box g14_ (bv d2) 4, Box g13_ (bv d1) 4, Box g12_ (bv d0) 4, Box g32_ #[.int .i64 x25_.f0, .slice a27_ x25_.f1.length c28_] 54, Box g4_ #[.slice A0 l0.length c0, .slice A1 l1.length c1, .slice A2 l2.length c2, .int .i64 h, .int .i64 ce, .int .i64 s, .int .i64 st, .slice (some a24_) ds.length c7] 26]) := ⟨St.rot [Box g32_ #[.int .i64 x25_.f0, .slice a27_ x25_.f1.length c28_] 54] [Box g19_ #[.slice (some ⟨g12_, 0, none⟩) l0.length l0.length, .slice (some ⟨g13_, 0, none⟩) l1.length l1.length, .slice (some ⟨g14_, 0, none⟩) l2.length l2.length] 60, Box g14_ (bv d2) 4, Box g13_ (bv d1) 4, Box g12_ (bv d0) 4] HS30_.out⟩
         clear HS30_
         refine (day_calls _ _ _ _ _ _ _ _ _ _ _ _ _ _ _ _ _ _ _ _ _ _ _ _ _ _ _ _ _ _ _ _ hd0 hd1 hd2 LK.out E26_RA.out HS44_.out).mono ?_
         rintro e W45_ ⟨D0, D1, D2, hD0, hD1, hD2, rfl, hDU, k47_⟩
         have HS46_ : Aside0 (KitW.St w W45_ [Box g19_ #[.slice (some ⟨g12_, 0, none⟩) l0.length l0.length, .slice (some ⟨g13_, 0, none⟩) l1.length l1.length, .slice (some ⟨g14_, 0, none⟩) l2.length l2.length] 60, Box g14_ (bv D2) 4, Box g13_ (bv D1) 4, Box g12_ (bv D0) 4, Box g32_ #[.int .i64 x25_.f0, .slice a27_ x25_.f1.length c28_] 54, Box g4_ #[.slice A0 l0.length c0, .slice A1 l1.length c1, .slice A2 l2.length c2, .int .i64 h, .int .i64 ce, .int .i64 s, .int .i64 st, .slice (some a24_) ds.length c7] 26]) := ⟨k47_⟩
         clear k47_ HS44_
         rw [c37_A.out]
         have HDU := Aside0.mk hDU
         clear hDU
         have qe0 : W45_.cell? (a24_.add ((i).toNat * 2)) = some (.int .i64 x25_.f0) := pw_cell_below HS46_.out.B E26_F0.out
         have qe1 : W45_.cell? ⟨(a24_.add ((i).toNat * 2)).block, (a24_.add ((i).toNat * 2)).off + 1, none⟩ = some (.slice a27_ x25_.f1.length c28_) := pw_cell_below HS46_.out.B E26_F1.out
         go_wp2
         go_ret
         exact ⟨by unfold canI; rw [if_pos c6_A.out, ← HI.out, rd54_drop hi (by omega) Hx25_.out]; simp only [cnI]; rw [if_neg (by omega)]; rw [if_neg (by omega)]; rw [if_neg (by omega)]; rw [if_neg (by rw [c37_A.out]; simp)]; try rfl, HS46_.out.B⟩
    ·
     have c23_1 : decide (i < ((ds.length : Nat) : Int)) = false := by simpa using c23_
     have c23_2 : ((ds.length : Nat) : Int) ≤ i := by omega
     have c23_A := Aside0.mk c23_2
     clear c23_
     obtain ⟨q0_0, q0_1, q0_2, z0_0, z0_1, z0_2⟩ := HSr.out.c3 0 rfl
     go_wp2
     refine start_ (n := 15) (S := fun w' => w'.cell? ⟨g19_, 0, none⟩ = some (.slice (some ⟨g12_, 0, none⟩) l0.length l0.length) ∧ w'.cell? ⟨g19_, 1, none⟩ = some (.slice (some ⟨g13_, 0, none⟩) l1.length l1.length) ∧ w'.cell? ⟨g19_, 2, none⟩ = some (.slice (some ⟨g14_, 0, none⟩) l2.length l2.length)) (ds := [12]) #[false, false, false, false, false, false, false, false, false, false, false, false, false, false, false] (by kernel_rfl) rfl rfl ⟨(by go_simp), (by go_simp), (by go_simp)⟩ (fun hHeld => ?_)
     refine pz 0 (some 65) (v := ?_) (a' := ?_) rfl rfl (by kernel_rfl) (fun _ _ _ h => h) (Or.inl ⟨by rfl, ?_⟩) ?_ ?_
     rotate_left
     · intro w'
       go_simp
       with_reducible rfl
     rotate_left
     · simp only [Act.put, List.setIfInBounds_toArray, List.set_cons_zero, List.set_cons_succ, i64_w, i32_w]
       rfl
     refine pz 1 (some 66) (v := ?_) (a' := ?_) rfl rfl (by kernel_rfl) (fun _ _ _ h => h) (Or.inl ⟨by rfl, ?_⟩) ?_ ?_
     rotate_left
     · intro w'
       go_simp
       with_reducible rfl
     rotate_left
     · simp only [Act.put, List.setIfInBounds_toArray, List.set_cons_zero, List.set_cons_succ, i64_w, i32_w]
       rfl
     refine pz 2 (some 67) (v := ?_) (a' := ?_) rfl rfl (by kernel_rfl) (fun _ _ _ h => h) (Or.inl ⟨by rfl, ?_⟩) ?_ ?_
     rotate_left
     · intro w'
       go_simp
       with_reducible rfl
     rotate_left
     · simp only [Act.put, List.setIfInBounds_toArray, List.set_cons_zero, List.set_cons_succ, i64_w, i32_w]
       rfl
     refine pz 4 (some 69) (v := ?_) (a' := ?_) rfl rfl (by kernel_rfl) (fun _ _ _ h => h) (Or.inl ⟨by rfl, ?_⟩) ?_ ?_
     rotate_left
     · intro w'
       go_simp
       with_reducible rfl
     rotate_left
     · simp only [Act.put, List.setIfInBounds_toArray, List.set_cons_zero, List.set_cons_succ, i64_w, i32_w]
       rfl
     refine pz 5 (some 70) (v := ?_) (a' := ?_) rfl rfl (by kernel_rfl) (fun _ _ _ h => h) (Or.inl ⟨by rfl, ?_⟩) ?_ ?_
     rotate_left
     · intro w'
       go_simp
       with_reducible rfl
     rotate_left
     · simp only [Act.put, List.setIfInBounds_toArray, List.set_cons_zero, List.set_cons_succ, i64_w, i32_w]
       rfl
     refine pz 6 (some 71) (v := ?_) (a' := ?_) rfl rfl (by kernel_rfl) (fun _ _ _ h => h) (Or.inl ⟨by rfl, ?_⟩) ?_ ?_
     rotate_left
     · intro w'
       go_simp
       with_reducible rfl
     rotate_left
     · simp only [Act.put, List.setIfInBounds_toArray, List.set_cons_zero, List.set_cons_succ, i64_w, i32_w]
       rfl
     refine pz 8 (some 73) (v := ?_) (a' := ?_) rfl rfl (by kernel_rfl) (fun _ _ _ h => h) (Or.inl ⟨by rfl, ?_⟩) ?_ ?_
     rotate_left
     · intro w'
       go_simp
       with_reducible rfl
     rotate_left
     · simp only [Act.put, List.setIfInBounds_toArray, List.set_cons_zero, List.set_cons_succ, i64_w, i32_w]
       rfl
     refine pz 9 (some 74) (v := ?_) (a' := ?_) rfl rfl (by kernel_rfl) (fun _ _ _ h => h) (Or.inl ⟨by rfl, ?_⟩) ?_ ?_
     rotate_left
     · intro w'
       go_simp
       with_reducible rfl
     rotate_left
     · simp only [Act.put, List.setIfInBounds_toArray, List.set_cons_zero, List.set_cons_succ, i64_w, i32_w]
       rfl
     refine pz 10 (some 75) (v := ?_) (a' := ?_) rfl rfl (by kernel_rfl) (fun _ _ _ h => h) (Or.inl ⟨by rfl, ?_⟩) ?_ ?_
     rotate_left
     · intro w'
       go_simp
       with_reducible rfl
     rotate_left
     · simp only [Act.put, List.setIfInBounds_toArray, List.set_cons_zero, List.set_cons_succ, i64_w, i32_w]
       rfl
     refine pz 14 (some 79) (v := ?_) (a' := ?_) rfl rfl (by kernel_rfl) (fun _ _ _ h => h) (Or.inl ⟨by rfl, ?_⟩) ?_ ?_
     rotate_left
     · intro w'
       go_simp
       with_reducible rfl
     rotate_left
     · simp only [Act.put, List.setIfInBounds_toArray, List.set_cons_zero, List.set_cons_succ, i64_w, i32_w]
       rfl
     refine tz 3 (some 68) (v := ?_) (a' := ?_) rfl rfl (by kernel_rfl) (fun _ _ _ h => h) (Or.inl ⟨by rfl, ?_⟩) hHeld ?_ ?_
     rotate_left
     · rintro w' ⟨s0, s1, s2⟩
       go_simp
       with_reducible rfl
     rotate_left
     · simp only [Act.put, List.setIfInBounds_toArray, List.set_cons_zero, List.set_cons_succ, i64_w, i32_w]
       rfl
     refine tz 7 (some 72) (v := ?_) (a' := ?_) rfl rfl (by kernel_rfl) (fun _ _ _ h => h) (Or.inl ⟨by rfl, ?_⟩) hHeld ?_ ?_
     rotate_left
     · rintro w' ⟨s0, s1, s2⟩
       go_simp
       with_reducible rfl
     rotate_left
     · simp only [Act.put, List.setIfInBounds_toArray, List.set_cons_zero, List.set_cons_succ, i64_w, i32_w]
       rfl
     refine tz 11 (some 76) (v := ?_) (a' := ?_) rfl rfl (by kernel_rfl) (fun _ _ _ h => h) (Or.inl ⟨by rfl, ?_⟩) hHeld ?_ ?_
     rotate_left
     · rintro w' ⟨s0, s1, s2⟩
       go_simp
       with_reducible rfl
     rotate_left
     · simp only [Act.put, List.setIfInBounds_toArray, List.set_cons_zero, List.set_cons_succ, i64_w, i32_w]
       rfl
     refine last_ (i := 12) (N := some 77) #[true, true, true, true, true, true, true, true, true, true, true, true, true, false, true] rfl rfl (by kernel_rfl) (by decide) (fun K hK => ?_)
     refine value_ (w1 := ?_) (v := ?_) (by rfl) rfl ?_ ?_
     rotate_left 2
     · go_simp
       constructor
       · rfl
       · rfl
     refine hK.out _ _ ?_
     clear hK K
     refine norm_ (a' := ?_) ?_ ?_
     rotate_left
     · show Act.put _ (some 77) _ = _
       simp only [Act.put, List.setIfInBounds_toArray, List.set_cons_zero, List.set_cons_succ, i64_w, i32_w]
       rfl
     refine pz 13 (some 78) (v := ?_) (a' := ?_) rfl rfl (by kernel_rfl) (fun _ _ _ h => h) (Or.inl ⟨by rfl, ?_⟩) ?_ ?_
     rotate_left
     · intro w'
       go_simp
       with_reducible rfl
     rotate_left
     · simp only [Act.put, List.setIfInBounds_toArray, List.set_cons_zero, List.set_cons_succ, i64_w, i32_w]
       rfl
     refine done_ (by kernel_rfl) ?_
     clear q0_0 q0_1 q0_2 z0_0 z0_1 z0_2
     obtain ⟨W48_, hW50_⟩ : ∃ W, W = (wr22_.alloc (.cells #[.slice (some ⟨g12_, 0, none⟩) l0.length l0.length, .slice (some ⟨g13_, 0, none⟩) l1.length l1.length, .slice (some ⟨g14_, 0, none⟩) l2.length l2.length] 58 (0, 0))).drew := ⟨_, rfl⟩
     obtain ⟨g51_, hg52_⟩ : ∃ g, g = wr22_.heap.size := ⟨_, rfl⟩
     have HS49_ : Aside0 (KitW.St w W48_ [Box g51_ #[.slice (some ⟨g12_, 0, none⟩) l0.length l0.length, .slice (some ⟨g13_, 0, none⟩) l1.length l1.length, .slice (some ⟨g14_, 0, none⟩) l2.length l2.length] 58, Box g19_ #[.slice (some ⟨g12_, 0, none⟩) l0.length l0.length, .slice (some ⟨g13_, 0, none⟩) l1.length l1.length, .slice (some ⟨g14_, 0, none⟩) l2.length l2.length] 60, Box g14_ (bv d2) 4, Box g13_ (bv d1) 4, Box g12_ (bv d0) 4, Box g4_ #[.slice A0 l0.length c0, .slice A1 l1.length c1, .slice A2 l2.length c2, .int .i64 h, .int .i64 ce, .int .i64 s, .int .i64 st, .slice A7 ds.length c7] 26]) := by rw [hW50_, hg52_]; exact ⟨by simpa using (HSr.out.allocF #[.slice (some ⟨g12_, 0, none⟩) l0.length l0.length, .slice (some ⟨g13_, 0, none⟩) l1.length l1.length, .slice (some ⟨g14_, 0, none⟩) l2.length l2.length] 58).drew⟩
     rw [← hW50_, ← hg52_]
     clear hW50_ hg52_ HSr
     go_wp2
     go_loopg [79, 9] 3 (fun g v _ W => ∃ k : Nat, v = .int .i64 (k : Int) ∧ k ≤ 3 ∧ g + k = 3 ∧ Aside0 ((1 ≤ k → d0.any isF = false) ∧ (2 ≤ k → d1.any isF = false) ∧ (3 ≤ k → d2.any isF = false)) ∧ Aside0 (St w W [Box g51_ #[.slice (some ⟨g12_, 0, none⟩) l0.length l0.length, .slice (some ⟨g13_, 0, none⟩) l1.length l1.length, .slice (some ⟨g14_, 0, none⟩) l2.length l2.length] 58, Box g19_ #[.slice (some ⟨g12_, 0, none⟩) l0.length l0.length, .slice (some ⟨g13_, 0, none⟩) l1.length l1.length, .slice (some ⟨g14_, 0, none⟩) l2.length l2.length] 60, Box g14_ (bv d2) 4, Box g13_ (bv d1) 4, Box g12_ (bv d0) 4, Box g4_ #[.slice A0 l0.length c0, .slice A1 l1.length c1, .slice A2 l2.length c2, .int .i64 h, .int .i64 ce, .int .i64 s, .int .i64 st, .slice A7 ds.length c7] 26]))
     case atStart => exact ⟨0, rfl, by omega, rfl, ⟨by omega, by omega, by omega⟩, HS49_⟩
     case round =>
      obtain ⟨k, rfl, hk3, hgk, HK, HSq⟩ := hrel
      skip
      obtain rfl | rfl | rfl | rfl : k = 0 ∨ k = 1 ∨ k = 2 ∨ k = 3 := by omega
      ·
       skip
       by_cases c55_ : (d0.any isF) = true
       ·
        have c55_A := Aside0.mk c55_
        clear c55_
        obtain ⟨q0_0, q0_1, q0_2, z0_0, z0_1, z0_2⟩ := HSq.out.c3 0 rfl
        go_wp2_with (go_at_call 24; refine stop ?_)
        refine Stop.mk ?_
        refine (coB_len hd0 (bv_C HSq.out 4 rfl (by omega))).mono ?_
        rintro e W ⟨rfl, hw_⟩
        rw [hw_]
        clear hw_ W
        rw [c55_A.out]
        go_wp2
        go_ret
        exact ⟨by unfold canI; rw [if_pos c6_A.out, ← HI.out, List.drop_of_length_le (by omega)]; simp only [cnI]; rw [if_pos c55_A.out]; try rfl, HSq.out.B⟩
       ·
        have c55_A := Aside0.mk (Bool.eq_false_iff.2 c55_)
        clear c55_
        obtain ⟨q0_0, q0_1, q0_2, z0_0, z0_1, z0_2⟩ := HSq.out.c3 0 rfl
        go_wp2_with (go_at_call 24; refine stop ?_)
        refine Stop.mk ?_
        refine (coB_len hd0 (bv_C HSq.out 4 rfl (by omega))).mono ?_
        rintro e W ⟨rfl, hw_⟩
        rw [hw_]
        clear hw_ W
        rw [c55_A.out]
        go_wp2
        go_roundg (gk - 1)
        case measure => omega
        case rel => exact ⟨1, by go_num, by omega, by omega, ⟨fun _ => c55_A.out, by omega, by omega⟩, HSq⟩
      ·
       have any0 : Aside0 (d0.any isF = false) := ⟨HK.out.1 (by omega)⟩
       skip
       by_cases c56_ : (d1.any isF) = true
       ·
        have c56_A := Aside0.mk c56_
        clear c56_
        obtain ⟨q0_0, q0_1, q0_2, z0_0, z0_1, z0_2⟩ := HSq.out.c3 0 rfl
        go_wp2_with (go_at_call 24; refine stop ?_)
        refine Stop.mk ?_
        refine (coB_len hd1 (bv_C HSq.out 3 rfl (by omega))).mono ?_
        rintro e W ⟨rfl, hw_⟩
        rw [hw_]
        clear hw_ W
        rw [c56_A.out]
        go_wp2
        go_ret
        exact ⟨by unfold canI; rw [if_pos c6_A.out, ← HI.out, List.drop_of_length_le (by omega)]; simp only [cnI]; rw [if_neg (by rw [any0.out]; simp)]; rw [if_pos c56_A.out]; try rfl, HSq.out.B⟩
       ·
        have c56_A := Aside0.mk (Bool.eq_false_iff.2 c56_)
        clear c56_
        obtain ⟨q0_0, q0_1, q0_2, z0_0, z0_1, z0_2⟩ := HSq.out.c3 0 rfl
        go_wp2_with (go_at_call 24; refine stop ?_)
        refine Stop.mk ?_
        refine (coB_len hd1 (bv_C HSq.out 3 rfl (by omega))).mono ?_
        rintro e W ⟨rfl, hw_⟩
        rw [hw_]
        clear hw_ W
        rw [c56_A.out]
        go_wp2
        go_roundg (gk - 1)
        case measure => omega
        case rel => exact ⟨2, by go_num, by omega, by omega, ⟨fun _ => any0.out, fun _ => c56_A.out, by omega⟩, HSq⟩
      ·
       have any0 : Aside0 (d0.any isF = false) := ⟨HK.out.1 (by omega)⟩
       have any1 : Aside0 (d1.any isF = false) := ⟨HK.out.2.1 (by omega)⟩
       skip
       by_cases c57_ : (d2.any isF) = true
       ·
        have c57_A := Aside0.mk c57_
        clear c57_
        obtain ⟨q0_0, q0_1, q0_2, z0_0, z0_1, z0_2⟩ := HSq.out.c3 0 rfl
        go_wp2_with (go_at_call 24; refine stop ?_)
        refine Stop.mk ?_
        refine (coB_len hd2 (bv_C HSq.out 2 rfl (by omega))).mono ?_
        rintro e W ⟨rfl, hw_⟩
        rw [hw_]
        clear hw_ W
        rw [c57_A.out]
        go_wp2
        go_ret
        exact ⟨by unfold canI; rw [if_pos c6_A.out, ← HI.out, List.drop_of_length_le (by omega)]; simp only [cnI]; rw [if_neg (by rw [any0.out]; simp)]; rw [if_neg (by rw [any1.out]; simp)]; rw [if_pos c57_A.out]; try rfl, HSq.out.B⟩
       ·
        have c57_A := Aside0.mk (Bool.eq_false_iff.2 c57_)
        clear c57_
        obtain ⟨q0_0, q0_1, q0_2, z0_0, z0_1, z0_2⟩ := HSq.out.c3 0 rfl
        go_wp2_with (go_at_call 24; refine stop ?_)
        refine Stop.mk ?_
        refine (coB_len hd2 (bv_C HSq.out 2 rfl (by omega))).mono ?_
        rintro e W ⟨rfl, hw_⟩
        rw [hw_]
        clear hw_ W
        rw [c57_A.out]
        go_wp2
        go_roundg (gk - 1)
        case measure => omega
        case rel => exact ⟨3, by go_num, by omega, by omega, ⟨fun _ => any0.out, fun _ => any1.out, fun _ => c57_A.out⟩, HSq⟩
      ·
       have any0 : Aside0 (d0.any isF = false) := ⟨HK.out.1 (by omega)⟩
       have any1 : Aside0 (d1.any isF = false) := ⟨HK.out.2.1 (by omega)⟩
       have any2 : Aside0 (d2.any isF = false) := ⟨HK.out.2.2 (by omega)⟩
       skip
       go_wp2
       go_ret
       exact ⟨by unfold canI; rw [if_pos c6_A.out, ← HI.out, List.drop_of_length_le (by omega)]; simp only [cnI]; rw [if_neg (by rw [any0.out]; simp)]; rw [if_neg (by rw [any1.out]; simp)]; rw [if_neg (by rw [any2.out]; simp)]; try rfl, HSq.out.B⟩
  ·
   have c6_A := Aside0.mk (Bool.eq_false_iff.2 c6_)
   clear c6_
   obtain ⟨q0_0, q0_1, q0_2, q0_3, q0_4, q0_5, q0_6, q0_7, z0_0, z0_1, z0_2, z0_3, z0_4, z0_5, z0_6, z0_7⟩ := HS2_.out.c8 0 rfl
   go_wp2_with (go_at_call 22; refine stop ?_)
   refine Stop.mk ?_
   refine (lists_calls A0 c0 l0 A1 c1 l1 A2 c2 l2 h ce s st A7 ds.length c7 _ (Kd.C_below R0.out HS2_.out.B) (Kd.C_below R1.out HS2_.out.B) (Kd.C_below R2.out HS2_.out.B)).mono ?_
   rintro e W58_ ⟨rfl, k60_⟩
   clear q0_0 q0_1 q0_2 q0_3 q0_4 q0_5 q0_6 q0_7 z0_0 z0_1 z0_2 z0_3 z0_4 z0_5 z0_6 z0_7
   have HS59_ := Aside0.mk (HS2_.out.below k60_)
   clear k60_ HS2_
   rw [c6_A.out]
   obtain ⟨q0_0, q0_1, q0_2, q0_3, q0_4, q0_5, q0_6, q0_7, z0_0, z0_1, z0_2, z0_3, z0_4, z0_5, z0_6, z0_7⟩ := HS59_.out.c8 0 rfl
   go_wp2
   go_ret
   exact ⟨by unfold canI; rw [if_neg (by rw [c6_A.out]; simp)]; try rfl, HS59_.out.B⟩
end Cn
end Go.Proofs.YtmhndfnmdkeiaaaDoor
