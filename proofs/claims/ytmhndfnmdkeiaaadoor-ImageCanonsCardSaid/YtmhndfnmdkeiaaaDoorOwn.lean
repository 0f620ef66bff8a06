/- The copy of a program, with a mark behind each of its lists: 'own' gives what it got, in memory of its own. No condition. -/
import Derived.Test.YtmhndfnmdkeiaaaDoorPEqualx
import Derived.Test.YtmhndfnmdkeiaaaDoorSep
namespace Go.Proofs.YtmhndfnmdkeiaaaDoor
open Go.RowKit Go.Proofs.YtmhndfnmdkeiaaaDoorW.PrintWords Go.Proofs.YtmhndfnmdkeiaaaDoorW.PrintLast Go.Proofs.YtmhndfnmdkeiaaaDoorW.PrintMore
open PEqual KitW
namespace OwnW
attribute [local go_sem] max2_int min2_int max_two min_two max_three min_three max_four min_four
def behind : ByteArray := ⟨#[66, 101, 104, 105, 110, 100]⟩
def mark33 : S56 := ⟨-4711, 0, 0⟩
/-- A segment's cells, as they came in. -/
def segR (w : World) (x : Int × Option (List S56)) (cs : List Value) : Prop := ∃ v, cs = [.int .i64 x.1, v] ∧ nrd k56 w v x.2
theorem take_snoc_ {α : Type} (l : List α) (k : Nat) (d : α) (h : k < l.length) : l.take (k + 1) = l.take k ++ [l.getD k d] := by
  rw [List.take_succ_eq_append_getElem h, List.getD_eq_getElem?_getD, List.getElem?_eq_getElem h]
  rfl

set_option linter.unusedVariables false
set_option linter.unusedSimpArgs false
set_option maxRecDepth 100000 in
set_option maxHeartbeats 4000000 in
theorem own_walk (A0 : Option Addr) (n0 c0 : Nat) (A1 : Option Addr) (n1 c1 : Nat) (A2 : Option Addr) (n2 c2 : Nat) (h c s st : Int) (A3 : Option Addr) (n3 c3 : Nat) (w : World)
    (hz0 : A0 = none → n0 = 0 ∧ c0 = 0) (hz1 : A1 = none → n1 = 0 ∧ c1 = 0) (hz2 : A2 = none → n2 = 0 ∧ c2 = 0) (hz3 : A3 = none → n3 = 0 ∧ c3 = 0)
    (h0 : n0 * 16 ≤ 140737488351232) (h1 : n1 * 16 ≤ 140737488351232) (h2 : n2 * 8 ≤ 140737488351232) (h3 : n3 * 32 ≤ 140737488351232)
    (l0 : List ByteArray) (hl0 : l0.length = n0) (hr0 : Kd.C Kd.string w A0 n0 l0) (l1 : List ByteArray) (hl1 : l1.length = n1) (hr1 : Kd.C Kd.string w A1 n1 l1) (l2 : List Int) (hl2 : l2.length = n2) (hr2 : Kd.C (Kd.int .i64) w A2 n2 l2)
    (ds : List (Int × Option (List S56))) (hr3 : ReadsRow (segR w) 2 w A3 n3 ds) (hds : ∀ x ∈ ds, ∀ l, x.2 = some l → l.length * 24 ≤ 140737488351232) :
    Calls Tryd.prog 8 #[.agg #[.slice A0 n0 c0, .slice A1 n1 c1, .slice A2 n2 c2, .int .i64 h, .int .i64 c, .int .i64 s, .int .i64 st, .slice A3 n3 c3]] w fun e w' => ∃ v0 v1 v2 v7, e = .returned (.agg #[v0, v1, v2, .int .i64 h, .int .i64 c, .int .i64 s, .int .i64 st, v7]) ∧
      St w w' [Val (tail 9 Kd.string behind) [v0] (nl A0 l0), Val (tail 9 Kd.string behind) [v1] (nl A1 l1), Val (tail 3 (Kd.int .i64) (-4711)) [v2] (nl A2 l2), Row (Kd.pair (Kd.int .i64) (tail 56 k56 mark33)) 54 v7 ds] := by
  have HR0 := Aside0.mk hr0
  have HL0 := Aside0.mk hl0
  have HR1 := Aside0.mk hr1
  have HL1 := Aside0.mk hl1
  have HR2 := Aside0.mk hr2
  have HL2 := Aside0.mk hl2
  have HR3 := Aside0.mk hr3
  have HD := Aside0.mk hds
  clear hr0 hl0 hr1 hl1 hr2 hl2 hr3 hds
  have hn0 := fun W => run_neq_slice_nil_any (P := Tryd.prog) W 22 9 A0 n0 c0 0 0 Tryd.underlying22
  have hn1 := fun W => run_neq_slice_nil_any (P := Tryd.prog) W 22 9 A1 n1 c1 0 0 Tryd.underlying22
  have hn2 := fun W => run_neq_slice_nil_any (P := Tryd.prog) W 23 3 A2 n2 c2 0 0 Tryd.underlying23
  have hn3 := fun W => run_neq_slice_nil_any (P := Tryd.prog) W 24 54 A3 n3 c3 0 0 Tryd.underlying24
  have HS := Aside0.mk ((((St.start w).alloc #[.slice A0 n0 c0, .slice A1 n1 c1, .slice A2 n2 c2, .int .i64 h, .int .i64 c, .int .i64 s, .int .i64 st, .slice A3 n3 c3] 26).alloc #[.slice none 0 0, .slice none 0 0, .slice none 0 0, .int .i64 0, .int .i64 0, .int .i64 0, .int .i64 0, .slice none 0 0] 26).alloc #[.slice A0 n0 c0, .slice A1 n1 c1, .slice A2 n2 c2, .int .i64 h, .int .i64 c, .int .i64 s, .int .i64 st, .slice A3 n3 c3] 26)
  go_enter Tryd.func8, Tryd.ntmps8
  go_upto_if 13 with (fail)
  obtain ⟨wc, hwc⟩ : ∃ wc, wc = ((w.alloc (.cells #[.slice A0 n0 c0, .slice A1 n1 c1, .slice A2 n2 c2, .int .i64 h, .int .i64 c, .int .i64 s, .int .i64 st, .slice A3 n3 c3] 26 (0, 0))).alloc (.cells #[.slice none 0 0, .slice none 0 0, .slice none 0 0, .int .i64 0, .int .i64 0, .int .i64 0, .int .i64 0, .slice none 0 0] 26 (0, 0))).alloc (.cells #[.slice A0 n0 c0, .slice A1 n1 c1, .slice A2 n2 c2, .int .i64 h, .int .i64 c, .int .i64 s, .int .i64 st, .slice A3 n3 c3] 26 (0, 0)) := ⟨_, rfl⟩
  have HS' : Aside0 (St w wc [Box (w.heap.size) #[.slice A0 n0 c0, .slice A1 n1 c1, .slice A2 n2 c2, .int .i64 h, .int .i64 c, .int .i64 s, .int .i64 st, .slice A3 n3 c3] 26, Box (w.heap.size + 1) #[.slice none 0 0, .slice none 0 0, .slice none 0 0, .int .i64 0, .int .i64 0, .int .i64 0, .int .i64 0, .slice none 0 0] 26, Box (w.heap.size + 1 + 1) #[.slice A0 n0 c0, .slice A1 n1 c1, .slice A2 n2 c2, .int .i64 h, .int .i64 c, .int .i64 s, .int .i64 st, .slice A3 n3 c3] 26]) := by rw [hwc]; exact ⟨by simpa using HS.out⟩
  rw [← hwc]
  clear hwc HS
  have HS := HS'
  clear HS'
  go_cut [4] (fun _ wc => ∃ v0, Aside0 (St w wc [Box (w.heap.size) #[.slice A0 n0 c0, .slice A1 n1 c1, .slice A2 n2 c2, .int .i64 h, .int .i64 c, .int .i64 s, .int .i64 st, .slice A3 n3 c3] 26, Box (w.heap.size + 1) #[.slice none 0 0, .slice none 0 0, .slice none 0 0, .int .i64 0, .int .i64 0, .int .i64 0, .int .i64 0, .slice none 0 0] 26, Box (w.heap.size + 1 + 1) #[v0, .slice A1 n1 c1, .slice A2 n2 c2, .int .i64 h, .int .i64 c, .int .i64 s, .int .i64 st, .slice A3 n3 c3] 26, Val (tail 9 Kd.string behind) [v0] (nl A0 l0)]))
  case first =>
    rcases A0 with _ | a0
    · obtain ⟨rfl, rfl⟩ := hz0 rfl
      go_wp2
      go_meet
      case rel => exact ⟨.slice none 0 0, ⟨HS.out.add (A := Val (tail 9 Kd.string behind) [.slice none 0 0] (nl none l0)) rfl⟩⟩
    · have hc0 : wc.cell? ⟨w.heap.size, 0, none⟩ = some (.slice (some a0) n0 c0) := HS.out.cell 0 rfl 0
      go_wp2
      refine start_ (n := 9) (S := fun w' => w'.cell? ⟨w.heap.size, 0, none⟩ = some (.slice (some a0) n0 c0)) (ds := []) #[false, false, false, false, false, false, false, false, false] (by kernel_rfl) rfl rfl ((by go_simp)) (fun hHeld => ?_)
      refine pure_ (i := 0) (N := some 14) (v := ?_) (a' := ?_) #[true, false, false, false, false, false, false, false, false] rfl rfl (by kernel_rfl) (fun _ _ _ h => h) (Or.inl ⟨by rfl, ?_⟩) ?_ ?_
      rotate_left
      · intro w'
        go_simp
        with_reducible rfl
      rotate_left
      · simp only [Act.put, List.setIfInBounds_toArray, List.set_cons_zero, List.set_cons_succ, i64_w, i32_w]
        rfl
      refine pure_ (i := 5) (N := some 19) (v := ?_) (a' := ?_) #[true, false, false, false, false, true, false, false, false] rfl rfl (by kernel_rfl) (fun _ _ _ h => h) (Or.inl ⟨by rfl, ?_⟩) ?_ ?_
      rotate_left
      · intro w'
        go_simp
        with_reducible rfl
      rotate_left
      · simp only [Act.put, List.setIfInBounds_toArray, List.set_cons_zero, List.set_cons_succ, i64_w, i32_w]
        rfl
      refine take_ (i := 1) (N := some 15) (v := ?_) (a' := ?_) #[true, true, false, false, false, true, false, false, false] rfl rfl (by kernel_rfl) (fun _ _ _ h => h) (Or.inl ⟨by rfl, ?_⟩) hHeld ?_ ?_
      rotate_left
      · intro w' s0
        go_simp
        with_reducible rfl
      rotate_left
      · simp only [Act.put, List.setIfInBounds_toArray, List.set_cons_zero, List.set_cons_succ, i64_w, i32_w]
        rfl
      refine pure_ (i := 2) (N := some 16) (v := ?_) (a' := ?_) #[true, true, true, false, false, true, false, false, false] rfl rfl (by kernel_rfl) (fun _ _ _ h => h) (Or.inl ⟨by rfl, ?_⟩) ?_ ?_
      rotate_left
      · intro w'
        go_simp
        with_reducible rfl
      rotate_left
      · simp only [Act.put, List.setIfInBounds_toArray, List.set_cons_zero, List.set_cons_succ, i64_w, i32_w]
        rfl
      refine pure_ (i := 3) (N := some 17) (v := ?_) (a' := ?_) #[true, true, true, true, false, true, false, false, false] rfl rfl (by kernel_rfl) (fun _ _ _ h => h) (Or.inl ⟨by rfl, ?_⟩) ?_ ?_
      rotate_left
      · intro w'
        go_simp
        with_reducible rfl
      rotate_left
      · simp only [Act.put, List.setIfInBounds_toArray, List.set_cons_zero, List.set_cons_succ, i64_w, i32_w]
        rfl
      refine take_ (i := 6) (N := some 20) (v := ?_) (a' := ?_) #[true, true, true, true, false, true, true, false, false] rfl rfl (by kernel_rfl) (fun _ _ _ h => h) (Or.inl ⟨by rfl, ?_⟩) hHeld ?_ ?_
      rotate_left
      · intro w' s0
        go_simp
        with_reducible rfl
      rotate_left
      · simp only [Act.put, List.setIfInBounds_toArray, List.set_cons_zero, List.set_cons_succ, i64_w, i32_w]
        rfl
      refine one_ (i := 4) (N := some 18) #[true, true, true, true, true, true, true, false, false] rfl rfl (by kernel_rfl) (by decide) (fun K hK => ?_)
      refine st_makeCap_step Kd.string HS.out.drew 9 (by rfl) (by rfl) 22 (.const (.int .i64 0)) (.tmp 17) (by rfl) (wrap64 ((n0 : Int) + 1)) (by rfl) (by rfl) Tryd.underlying22 (.string ⟨#[]⟩) 16 (by kernel_rfl) (by decide) (by decide) (by unfold wrap64; omega) (by unfold wrap64; omega) ?_
      intro u1 W1 hs1
      refine hK.out _ _ ((hs1.cell 0 rfl 0)) (fun hHeld => ?_)
      clear hK K
      refine norm_ (a' := ?_) ?_ ?_
      rotate_left
      · show Act.put _ (some 18) _ = _
        simp only [Act.put, List.setIfInBounds_toArray, List.set_cons_zero, List.set_cons_succ, i64_w, i32_w]
        rfl
      refine one_ (i := 7) (N := some 21) #[true, true, true, true, true, true, true, true, false] rfl rfl (by kernel_rfl) (by decide) (fun K hK => ?_)
      refine st_append_rows_step Kd.string (Rr := Kd.string.K w) hs1 3 (by rfl) (.tmp 18) (.tmp 20) 22 9 (.string ⟨#[]⟩) 16 (by rfl) Tryd.underlying22 (by kernel_rfl) rfl (by decide) (by decide) u1 [] l0 (some a0) n0 c0 rfl (by rfl) (by rfl) (Kd.C_below HR0.out hs1.B) (fun _ _ h => h) (by simp only [List.length_nil]; omega) ?_
      intro u2 W2 hs2
      refine hK.out _ _ ((hs2.cell 0 rfl 0)) (fun hHeld => ?_)
      clear hK K
      refine norm_ (a' := ?_) ?_ ?_
      rotate_left
      · show Act.put _ (some 21) _ = _
        simp only [Act.put, List.setIfInBounds_toArray, List.set_cons_zero, List.set_cons_succ, i64_w, i32_w]
        rfl
      refine pure_ (i := 8) (N := some 4) (v := ?_) (a' := ?_) #[true, true, true, true, true, true, true, true, true] rfl rfl (by kernel_rfl) (fun _ _ _ h => h) (Or.inl ⟨by rfl, ?_⟩) ?_ ?_
      rotate_left
      · intro w'
        go_simp
        with_reducible rfl
      rotate_left
      · simp only [Act.put, List.setIfInBounds_toArray, List.set_cons_zero, List.set_cons_succ, i64_w, i32_w]
        rfl
      refine done_ (by kernel_rfl) ?_
      clear hc0
      have HS2 : Aside0 (St w W2 [Box (w.heap.size) #[.slice (some a0) n0 c0, .slice A1 n1 c1, .slice A2 n2 c2, .int .i64 h, .int .i64 c, .int .i64 s, .int .i64 st, .slice A3 n3 c3] 26, Box (w.heap.size + 1) #[.slice none 0 0, .slice none 0 0, .slice none 0 0, .int .i64 0, .int .i64 0, .int .i64 0, .int .i64 0, .slice none 0 0] 26, Box (w.heap.size + 1 + 1) #[.slice (some a0) n0 c0, .slice A1 n1 c1, .slice A2 n2 c2, .int .i64 h, .int .i64 c, .int .i64 s, .int .i64 st, .slice A3 n3 c3] 26, Row Kd.string 9 u2 l0]) := ⟨hs2⟩
      clear hs1 hs2
      go_wp2_with (at_builtin; refine stop ?_)
      refine Stop.mk ?_
      refine st_append Kd.string HS2.out 3 rfl (.tmp 22) (.tmp 23) 22 9 (.string ⟨#[]⟩) 16 rfl Tryd.underlying22 (by kernel_rfl) rfl (by decide) (by decide) u2 l0 behind [.string ⟨#[66, 101, 104, 105, 110, 100]⟩] rfl rfl rfl rfl (by have := HL0.out; omega) ?_
      intro u3 W3 hs3
      obtain ⟨g3, cc3, rfl, hle⟩ := hs3.form 3 rfl (by simp)
      have HS3 : Aside0 (St w W3 [Box (w.heap.size) #[.slice (some a0) n0 c0, .slice A1 n1 c1, .slice A2 n2 c2, .int .i64 h, .int .i64 c, .int .i64 s, .int .i64 st, .slice A3 n3 c3] 26, Box (w.heap.size + 1) #[.slice none 0 0, .slice none 0 0, .slice none 0 0, .int .i64 0, .int .i64 0, .int .i64 0, .int .i64 0, .slice none 0 0] 26, Box (w.heap.size + 1 + 1) #[.slice (some a0) n0 c0, .slice A1 n1 c1, .slice A2 n2 c2, .int .i64 h, .int .i64 c, .int .i64 s, .int .i64 st, .slice A3 n3 c3] 26, Row Kd.string 9 (.slice (some ⟨g3, 0, none⟩) (l0 ++ [behind]).length cc3) (l0 ++ [behind])]) := ⟨hs3⟩
      clear hs3
      have hc1 : W3.cell? ⟨w.heap.size, 0, none⟩ = some (.slice (some a0) n0 c0) := HS3.out.cell 0 rfl 0
      have hc2 : W3.cell? ⟨w.heap.size + 1 + 1, 0, none⟩ = some (.slice (some a0) n0 c0) := HS3.out.cell 2 rfl 0
      have hf2 := HS3.out.frozen 2 rfl 0
      have hle1 : (0 : Int) ≤ (n0 : Int) := by omega
      have hle2 : (n0 : Int) ≤ (cc3 : Int) := by have := HL0.out; simp at hle; omega
      clear hle
      go_wp2
      go_meet
      case rel => exact ⟨_, ⟨(HS3.out.set 2 rfl 0 (.slice (some ⟨g3, 0, none⟩) n0 cc3)).imp 3 rfl (fun F hF => tail_of_row HL0.out hF)⟩⟩
  case rest =>
  clear HS
  obtain ⟨v0, HS⟩ := hcut
  have hcj : wc.cell? ⟨w.heap.size, 1, none⟩ = some (.slice A1 n1 c1) := HS.out.cell 0 rfl 1
  go_upto_if 33 with (fail)
  clear hcj
  go_cut [5] (fun _ wc => ∃ v1, Aside0 (St w wc [Box (w.heap.size) #[.slice A0 n0 c0, .slice A1 n1 c1, .slice A2 n2 c2, .int .i64 h, .int .i64 c, .int .i64 s, .int .i64 st, .slice A3 n3 c3] 26, Box (w.heap.size + 1) #[.slice none 0 0, .slice none 0 0, .slice none 0 0, .int .i64 0, .int .i64 0, .int .i64 0, .int .i64 0, .slice none 0 0] 26, Box (w.heap.size + 1 + 1) #[v0, v1, .slice A2 n2 c2, .int .i64 h, .int .i64 c, .int .i64 s, .int .i64 st, .slice A3 n3 c3] 26, Val (tail 9 Kd.string behind) [v0] (nl A0 l0), Val (tail 9 Kd.string behind) [v1] (nl A1 l1)]))
  case first =>
    rcases A1 with _ | a1
    · obtain ⟨rfl, rfl⟩ := hz1 rfl
      go_wp2
      go_meet
      case rel => exact ⟨.slice none 0 0, ⟨HS.out.add (A := Val (tail 9 Kd.string behind) [.slice none 0 0] (nl none l1)) rfl⟩⟩
    · have hc0 : wc.cell? ⟨w.heap.size, 1, none⟩ = some (.slice (some a1) n1 c1) := HS.out.cell 0 rfl 1
      go_wp2
      refine start_ (n := 9) (S := fun w' => w'.cell? ⟨w.heap.size, 1, none⟩ = some (.slice (some a1) n1 c1)) (ds := []) #[false, false, false, false, false, false, false, false, false] (by kernel_rfl) rfl rfl ((by go_simp)) (fun hHeld => ?_)
      refine pure_ (i := 0) (N := some 34) (v := ?_) (a' := ?_) #[true, false, false, false, false, false, false, false, false] rfl rfl (by kernel_rfl) (fun _ _ _ h => h) (Or.inl ⟨by rfl, ?_⟩) ?_ ?_
      rotate_left
      · intro w'
        go_simp
        with_reducible rfl
      rotate_left
      · simp only [Act.put, List.setIfInBounds_toArray, List.set_cons_zero, List.set_cons_succ, i64_w, i32_w]
        rfl
      refine pure_ (i := 5) (N := some 39) (v := ?_) (a' := ?_) #[true, false, false, false, false, true, false, false, false] rfl rfl (by kernel_rfl) (fun _ _ _ h => h) (Or.inl ⟨by rfl, ?_⟩) ?_ ?_
      rotate_left
      · intro w'
        go_simp
        with_reducible rfl
      rotate_left
      · simp only [Act.put, List.setIfInBounds_toArray, List.set_cons_zero, List.set_cons_succ, i64_w, i32_w]
        rfl
      refine take_ (i := 1) (N := some 35) (v := ?_) (a' := ?_) #[true, true, false, false, false, true, false, false, false] rfl rfl (by kernel_rfl) (fun _ _ _ h => h) (Or.inl ⟨by rfl, ?_⟩) hHeld ?_ ?_
      rotate_left
      · intro w' s0
        go_simp
        with_reducible rfl
      rotate_left
      · simp only [Act.put, List.setIfInBounds_toArray, List.set_cons_zero, List.set_cons_succ, i64_w, i32_w]
        rfl
      refine pure_ (i := 2) (N := some 36) (v := ?_) (a' := ?_) #[true, true, true, false, false, true, false, false, false] rfl rfl (by kernel_rfl) (fun _ _ _ h => h) (Or.inl ⟨by rfl, ?_⟩) ?_ ?_
      rotate_left
      · intro w'
        go_simp
        with_reducible rfl
      rotate_left
      · simp only [Act.put, List.setIfInBounds_toArray, List.set_cons_zero, List.set_cons_succ, i64_w, i32_w]
        rfl
      refine pure_ (i := 3) (N := some 37) (v := ?_) (a' := ?_) #[true, true, true, true, false, true, false, false, false] rfl rfl (by kernel_rfl) (fun _ _ _ h => h) (Or.inl ⟨by rfl, ?_⟩) ?_ ?_
      rotate_left
      · intro w'
        go_simp
        with_reducible rfl
      rotate_left
      · simp only [Act.put, List.setIfInBounds_toArray, List.set_cons_zero, List.set_cons_succ, i64_w, i32_w]
        rfl
      refine take_ (i := 6) (N := some 40) (v := ?_) (a' := ?_) #[true, true, true, true, false, true, true, false, false] rfl rfl (by kernel_rfl) (fun _ _ _ h => h) (Or.inl ⟨by rfl, ?_⟩) hHeld ?_ ?_
      rotate_left
      · intro w' s0
        go_simp
        with_reducible rfl
      rotate_left
      · simp only [Act.put, List.setIfInBounds_toArray, List.set_cons_zero, List.set_cons_succ, i64_w, i32_w]
        rfl
      refine one_ (i := 4) (N := some 38) #[true, true, true, true, true, true, true, false, false] rfl rfl (by kernel_rfl) (by decide) (fun K hK => ?_)
      refine st_makeCap_step Kd.string HS.out.drew 9 (by rfl) (by rfl) 22 (.const (.int .i64 0)) (.tmp 37) (by rfl) (wrap64 ((n1 : Int) + 1)) (by rfl) (by rfl) Tryd.underlying22 (.string ⟨#[]⟩) 16 (by kernel_rfl) (by decide) (by decide) (by unfold wrap64; omega) (by unfold wrap64; omega) ?_
      intro u1 W1 hs1
      refine hK.out _ _ ((hs1.cell 0 rfl 1)) (fun hHeld => ?_)
      clear hK K
      refine norm_ (a' := ?_) ?_ ?_
      rotate_left
      · show Act.put _ (some 38) _ = _
        simp only [Act.put, List.setIfInBounds_toArray, List.set_cons_zero, List.set_cons_succ, i64_w, i32_w]
        rfl
      refine one_ (i := 7) (N := some 41) #[true, true, true, true, true, true, true, true, false] rfl rfl (by kernel_rfl) (by decide) (fun K hK => ?_)
      refine st_append_rows_step Kd.string (Rr := Kd.string.K w) hs1 4 (by rfl) (.tmp 38) (.tmp 40) 22 9 (.string ⟨#[]⟩) 16 (by rfl) Tryd.underlying22 (by kernel_rfl) rfl (by decide) (by decide) u1 [] l1 (some a1) n1 c1 rfl (by rfl) (by rfl) (Kd.C_below HR1.out hs1.B) (fun _ _ h => h) (by simp only [List.length_nil]; omega) ?_
      intro u2 W2 hs2
      refine hK.out _ _ ((hs2.cell 0 rfl 1)) (fun hHeld => ?_)
      clear hK K
      refine norm_ (a' := ?_) ?_ ?_
      rotate_left
      · show Act.put _ (some 41) _ = _
        simp only [Act.put, List.setIfInBounds_toArray, List.set_cons_zero, List.set_cons_succ, i64_w, i32_w]
        rfl
      refine pure_ (i := 8) (N := some 5) (v := ?_) (a' := ?_) #[true, true, true, true, true, true, true, true, true] rfl rfl (by kernel_rfl) (fun _ _ _ h => h) (Or.inl ⟨by rfl, ?_⟩) ?_ ?_
      rotate_left
      · intro w'
        go_simp
        with_reducible rfl
      rotate_left
      · simp only [Act.put, List.setIfInBounds_toArray, List.set_cons_zero, List.set_cons_succ, i64_w, i32_w]
        rfl
      refine done_ (by kernel_rfl) ?_
      clear hc0
      have HS2 : Aside0 (St w W2 [Box (w.heap.size) #[.slice A0 n0 c0, .slice (some a1) n1 c1, .slice A2 n2 c2, .int .i64 h, .int .i64 c, .int .i64 s, .int .i64 st, .slice A3 n3 c3] 26, Box (w.heap.size + 1) #[.slice none 0 0, .slice none 0 0, .slice none 0 0, .int .i64 0, .int .i64 0, .int .i64 0, .int .i64 0, .slice none 0 0] 26, Box (w.heap.size + 1 + 1) #[v0, .slice (some a1) n1 c1, .slice A2 n2 c2, .int .i64 h, .int .i64 c, .int .i64 s, .int .i64 st, .slice A3 n3 c3] 26, Val (tail 9 Kd.string behind) [v0] (nl A0 l0), Row Kd.string 9 u2 l1]) := ⟨hs2⟩
      clear hs1 hs2
      go_wp2_with (at_builtin; refine stop ?_)
      refine Stop.mk ?_
      refine st_append Kd.string HS2.out 4 rfl (.tmp 42) (.tmp 43) 22 9 (.string ⟨#[]⟩) 16 rfl Tryd.underlying22 (by kernel_rfl) rfl (by decide) (by decide) u2 l1 behind [.string ⟨#[66, 101, 104, 105, 110, 100]⟩] rfl rfl rfl rfl (by have := HL1.out; omega) ?_
      intro u3 W3 hs3
      obtain ⟨g3, cc3, rfl, hle⟩ := hs3.form 4 rfl (by simp)
      have HS3 : Aside0 (St w W3 [Box (w.heap.size) #[.slice A0 n0 c0, .slice (some a1) n1 c1, .slice A2 n2 c2, .int .i64 h, .int .i64 c, .int .i64 s, .int .i64 st, .slice A3 n3 c3] 26, Box (w.heap.size + 1) #[.slice none 0 0, .slice none 0 0, .slice none 0 0, .int .i64 0, .int .i64 0, .int .i64 0, .int .i64 0, .slice none 0 0] 26, Box (w.heap.size + 1 + 1) #[v0, .slice (some a1) n1 c1, .slice A2 n2 c2, .int .i64 h, .int .i64 c, .int .i64 s, .int .i64 st, .slice A3 n3 c3] 26, Val (tail 9 Kd.string behind) [v0] (nl A0 l0), Row Kd.string 9 (.slice (some ⟨g3, 0, none⟩) (l1 ++ [behind]).length cc3) (l1 ++ [behind])]) := ⟨hs3⟩
      clear hs3
      have hc1 : W3.cell? ⟨w.heap.size, 1, none⟩ = some (.slice (some a1) n1 c1) := HS3.out.cell 0 rfl 1
      have hc2 : W3.cell? ⟨w.heap.size + 1 + 1, 1, none⟩ = some (.slice (some a1) n1 c1) := HS3.out.cell 2 rfl 1
      have hf2 := HS3.out.frozen 2 rfl 1
      have hle1 : (0 : Int) ≤ (n1 : Int) := by omega
      have hle2 : (n1 : Int) ≤ (cc3 : Int) := by have := HL1.out; simp at hle; omega
      clear hle
      go_wp2
      go_meet
      case rel => exact ⟨_, ⟨(HS3.out.set 2 rfl 1 (.slice (some ⟨g3, 0, none⟩) n1 cc3)).imp 4 rfl (fun F hF => tail_of_row HL1.out hF)⟩⟩
  case rest =>
  clear HS
  obtain ⟨v1, HS⟩ := hcut
  have hcj : wc.cell? ⟨w.heap.size, 2, none⟩ = some (.slice A2 n2 c2) := HS.out.cell 0 rfl 2
  go_upto_if 53 with (fail)
  clear hcj
  go_cut [6] (fun _ wc => ∃ v2, Aside0 (St w wc [Box (w.heap.size) #[.slice A0 n0 c0, .slice A1 n1 c1, .slice A2 n2 c2, .int .i64 h, .int .i64 c, .int .i64 s, .int .i64 st, .slice A3 n3 c3] 26, Box (w.heap.size + 1) #[.slice none 0 0, .slice none 0 0, .slice none 0 0, .int .i64 0, .int .i64 0, .int .i64 0, .int .i64 0, .slice none 0 0] 26, Box (w.heap.size + 1 + 1) #[v0, v1, v2, .int .i64 h, .int .i64 c, .int .i64 s, .int .i64 st, .slice A3 n3 c3] 26, Val (tail 9 Kd.string behind) [v0] (nl A0 l0), Val (tail 9 Kd.string behind) [v1] (nl A1 l1), Val (tail 3 (Kd.int .i64) (-4711)) [v2] (nl A2 l2)]))
  case first =>
    rcases A2 with _ | a2
    · obtain ⟨rfl, rfl⟩ := hz2 rfl
      go_wp2
      go_meet
      case rel => exact ⟨.slice none 0 0, ⟨HS.out.add (A := Val (tail 3 (Kd.int .i64) (-4711)) [.slice none 0 0] (nl none l2)) rfl⟩⟩
    · have hc0 : wc.cell? ⟨w.heap.size, 2, none⟩ = some (.slice (some a2) n2 c2) := HS.out.cell 0 rfl 2
      go_wp2
      refine start_ (n := 9) (S := fun w' => w'.cell? ⟨w.heap.size, 2, none⟩ = some (.slice (some a2) n2 c2)) (ds := []) #[false, false, false, false, false, false, false, false, false] (by kernel_rfl) rfl rfl ((by go_simp)) (fun hHeld => ?_)
      refine pure_ (i := 0) (N := some 54) (v := ?_) (a' := ?_) #[true, false, false, false, false, false, false, false, false] rfl rfl (by kernel_rfl) (fun _ _ _ h => h) (Or.inl ⟨by rfl, ?_⟩) ?_ ?_
      rotate_left
      · intro w'
        go_simp
        with_reducible rfl
      rotate_left
      · simp only [Act.put, List.setIfInBounds_toArray, List.set_cons_zero, List.set_cons_succ, i64_w, i32_w]
        rfl
      refine pure_ (i := 5) (N := some 59) (v := ?_) (a' := ?_) #[true, false, false, false, false, true, false, false, false] rfl rfl (by kernel_rfl) (fun _ _ _ h => h) (Or.inl ⟨by rfl, ?_⟩) ?_ ?_
      rotate_left
      · intro w'
        go_simp
        with_reducible rfl
      rotate_left
      · simp only [Act.put, List.setIfInBounds_toArray, List.set_cons_zero, List.set_cons_succ, i64_w, i32_w]
        rfl
      refine take_ (i := 1) (N := some 55) (v := ?_) (a' := ?_) #[true, true, false, false, false, true, false, false, false] rfl rfl (by kernel_rfl) (fun _ _ _ h => h) (Or.inl ⟨by rfl, ?_⟩) hHeld ?_ ?_
      rotate_left
      · intro w' s0
        go_simp
        with_reducible rfl
      rotate_left
      · simp only [Act.put, List.setIfInBounds_toArray, List.set_cons_zero, List.set_cons_succ, i64_w, i32_w]
        rfl
      refine pure_ (i := 2) (N := some 56) (v := ?_) (a' := ?_) #[true, true, true, false, false, true, false, false, false] rfl rfl (by kernel_rfl) (fun _ _ _ h => h) (Or.inl ⟨by rfl, ?_⟩) ?_ ?_
      rotate_left
      · intro w'
        go_simp
        with_reducible rfl
      rotate_left
      · simp only [Act.put, List.setIfInBounds_toArray, List.set_cons_zero, List.set_cons_succ, i64_w, i32_w]
        rfl
      refine pure_ (i := 3) (N := some 57) (v := ?_) (a' := ?_) #[true, true, true, true, false, true, false, false, false] rfl rfl (by kernel_rfl) (fun _ _ _ h => h) (Or.inl ⟨by rfl, ?_⟩) ?_ ?_
      rotate_left
      · intro w'
        go_simp
        with_reducible rfl
      rotate_left
      · simp only [Act.put, List.setIfInBounds_toArray, List.set_cons_zero, List.set_cons_succ, i64_w, i32_w]
        rfl
      refine take_ (i := 6) (N := some 60) (v := ?_) (a' := ?_) #[true, true, true, true, false, true, true, false, false] rfl rfl (by kernel_rfl) (fun _ _ _ h => h) (Or.inl ⟨by rfl, ?_⟩) hHeld ?_ ?_
      rotate_left
      · intro w' s0
        go_simp
        with_reducible rfl
      rotate_left
      · simp only [Act.put, List.setIfInBounds_toArray, List.set_cons_zero, List.set_cons_succ, i64_w, i32_w]
        rfl
      refine one_ (i := 4) (N := some 58) #[true, true, true, true, true, true, true, false, false] rfl rfl (by kernel_rfl) (by decide) (fun K hK => ?_)
      refine st_makeCap_step (Kd.int .i64) HS.out.drew 3 (by rfl) (by rfl) 23 (.const (.int .i64 0)) (.tmp 57) (by rfl) (wrap64 ((n2 : Int) + 1)) (by rfl) (by rfl) Tryd.underlying23 (.int .i64 0) 8 (by kernel_rfl) (by decide) (by decide) (by unfold wrap64; omega) (by unfold wrap64; omega) ?_
      intro u1 W1 hs1
      refine hK.out _ _ ((hs1.cell 0 rfl 2)) (fun hHeld => ?_)
      clear hK K
      refine norm_ (a' := ?_) ?_ ?_
      rotate_left
      · show Act.put _ (some 58) _ = _
        simp only [Act.put, List.setIfInBounds_toArray, List.set_cons_zero, List.set_cons_succ, i64_w, i32_w]
        rfl
      refine one_ (i := 7) (N := some 61) #[true, true, true, true, true, true, true, true, false] rfl rfl (by kernel_rfl) (by decide) (fun K hK => ?_)
      refine st_append_rows_step (Kd.int .i64) (Rr := (Kd.int .i64).K w) hs1 5 (by rfl) (.tmp 58) (.tmp 60) 23 3 (.int .i64 0) 8 (by rfl) Tryd.underlying23 (by kernel_rfl) rfl (by decide) (by decide) u1 [] l2 (some a2) n2 c2 rfl (by rfl) (by rfl) (Kd.C_below HR2.out hs1.B) (fun _ _ h => h) (by simp only [List.length_nil]; omega) ?_
      intro u2 W2 hs2
      refine hK.out _ _ ((hs2.cell 0 rfl 2)) (fun hHeld => ?_)
      clear hK K
      refine norm_ (a' := ?_) ?_ ?_
      rotate_left
      · show Act.put _ (some 61) _ = _
        simp only [Act.put, List.setIfInBounds_toArray, List.set_cons_zero, List.set_cons_succ, i64_w, i32_w]
        rfl
      refine pure_ (i := 8) (N := some 6) (v := ?_) (a' := ?_) #[true, true, true, true, true, true, true, true, true] rfl rfl (by kernel_rfl) (fun _ _ _ h => h) (Or.inl ⟨by rfl, ?_⟩) ?_ ?_
      rotate_left
      · intro w'
        go_simp
        with_reducible rfl
      rotate_left
      · simp only [Act.put, List.setIfInBounds_toArray, List.set_cons_zero, List.set_cons_succ, i64_w, i32_w]
        rfl
      refine done_ (by kernel_rfl) ?_
      clear hc0
      have HS2 : Aside0 (St w W2 [Box (w.heap.size) #[.slice A0 n0 c0, .slice A1 n1 c1, .slice (some a2) n2 c2, .int .i64 h, .int .i64 c, .int .i64 s, .int .i64 st, .slice A3 n3 c3] 26, Box (w.heap.size + 1) #[.slice none 0 0, .slice none 0 0, .slice none 0 0, .int .i64 0, .int .i64 0, .int .i64 0, .int .i64 0, .slice none 0 0] 26, Box (w.heap.size + 1 + 1) #[v0, v1, .slice (some a2) n2 c2, .int .i64 h, .int .i64 c, .int .i64 s, .int .i64 st, .slice A3 n3 c3] 26, Val (tail 9 Kd.string behind) [v0] (nl A0 l0), Val (tail 9 Kd.string behind) [v1] (nl A1 l1), Row (Kd.int .i64) 3 u2 l2]) := ⟨hs2⟩
      clear hs1 hs2
      go_wp2_with (at_builtin; refine stop ?_)
      refine Stop.mk ?_
      refine st_append (Kd.int .i64) HS2.out 5 rfl (.tmp 62) (.tmp 63) 23 3 (.int .i64 0) 8 rfl Tryd.underlying23 (by kernel_rfl) rfl (by decide) (by decide) u2 l2 (-4711) [.int .i64 (-4711)] rfl rfl rfl rfl (by have := HL2.out; omega) ?_
      intro u3 W3 hs3
      obtain ⟨g3, cc3, rfl, hle⟩ := hs3.form 5 rfl (by simp)
      have HS3 : Aside0 (St w W3 [Box (w.heap.size) #[.slice A0 n0 c0, .slice A1 n1 c1, .slice (some a2) n2 c2, .int .i64 h, .int .i64 c, .int .i64 s, .int .i64 st, .slice A3 n3 c3] 26, Box (w.heap.size + 1) #[.slice none 0 0, .slice none 0 0, .slice none 0 0, .int .i64 0, .int .i64 0, .int .i64 0, .int .i64 0, .slice none 0 0] 26, Box (w.heap.size + 1 + 1) #[v0, v1, .slice (some a2) n2 c2, .int .i64 h, .int .i64 c, .int .i64 s, .int .i64 st, .slice A3 n3 c3] 26, Val (tail 9 Kd.string behind) [v0] (nl A0 l0), Val (tail 9 Kd.string behind) [v1] (nl A1 l1), Row (Kd.int .i64) 3 (.slice (some ⟨g3, 0, none⟩) (l2 ++ [(-4711)]).length cc3) (l2 ++ [(-4711)])]) := ⟨hs3⟩
      clear hs3
      have hc1 : W3.cell? ⟨w.heap.size, 2, none⟩ = some (.slice (some a2) n2 c2) := HS3.out.cell 0 rfl 2
      have hc2 : W3.cell? ⟨w.heap.size + 1 + 1, 2, none⟩ = some (.slice (some a2) n2 c2) := HS3.out.cell 2 rfl 2
      have hf2 := HS3.out.frozen 2 rfl 2
      have hle1 : (0 : Int) ≤ (n2 : Int) := by omega
      have hle2 : (n2 : Int) ≤ (cc3 : Int) := by have := HL2.out; simp at hle; omega
      clear hle
      go_wp2
      go_meet
      case rel => exact ⟨_, ⟨(HS3.out.set 2 rfl 2 (.slice (some ⟨g3, 0, none⟩) n2 cc3)).imp 5 rfl (fun F hF => tail_of_row HL2.out hF)⟩⟩
  case rest =>
  clear HS
  obtain ⟨v2, HS⟩ := hcut
  have hcj : wc.cell? ⟨w.heap.size, 7, none⟩ = some (.slice A3 n3 c3) := HS.out.cell 0 rfl 7
  go_upto_if 73 with (fail)
  clear hcj
  go_cut [7, 8, 9] (fun _ _ _ wc => ∃ v7, Aside0 (St w wc [Box (w.heap.size) #[.slice A0 n0 c0, .slice A1 n1 c1, .slice A2 n2 c2, .int .i64 h, .int .i64 c, .int .i64 s, .int .i64 st, .slice A3 n3 c3] 26, Box (w.heap.size + 1) #[.slice none 0 0, .slice none 0 0, .slice none 0 0, .int .i64 0, .int .i64 0, .int .i64 0, .int .i64 0, .slice none 0 0] 26, Box (w.heap.size + 1 + 1) #[v0, v1, v2, .int .i64 h, .int .i64 c, .int .i64 s, .int .i64 st, v7] 26, Val (tail 9 Kd.string behind) [v0] (nl A0 l0), Val (tail 9 Kd.string behind) [v1] (nl A1 l1), Val (tail 3 (Kd.int .i64) (-4711)) [v2] (nl A2 l2), Row (Kd.pair (Kd.int .i64) (tail 56 k56 mark33)) 54 v7 ds]))
  case first =>
    rcases A3 with _ | a3
    · obtain ⟨rfl, rfl⟩ := hz3 rfl
      have hd0 : ds = [] := List.eq_nil_of_length_eq_zero HR3.out.1
      have HD0 := Aside0.mk hd0
      clear hd0
      go_wp2
      go_meet
      case rel => exact ⟨.slice none 0 0, ⟨by rw [HD0.out]; exact HS.out.add (A := Row (Kd.pair (Kd.int .i64) (tail 56 k56 mark33)) 54 (.slice none 0 0) []) (Kd.R_nil _ _ _ _ _)⟩⟩
    · have hc0 : wc.cell? ⟨w.heap.size, 7, none⟩ = some (.slice (some a3) n3 c3) := HS.out.cell 0 rfl 7
      go_wp2_with (at_make; refine stop ?_)
      refine Stop.mk ?_
      refine st_makeCap (Kd.pair (Kd.int .i64) (tail 56 k56 mark33)) HS.out 54 rfl rfl 24 (.const (.int .i64 0)) (.tmp 77) rfl ((n3 : Int) + 1) rfl rfl Tryd.underlying24 (.agg #[.int .i64 0, .slice none 0 0]) 32 (by kernel_rfl) (by decide) (by decide) (by omega) (by omega) ?_
      intro u1 W1 hs1
      obtain ⟨Au, cu, rfl, _, _⟩ := hs1.row 6 rfl
      have HS1 : Aside0 (St w W1 [Box (w.heap.size) #[.slice A0 n0 c0, .slice A1 n1 c1, .slice A2 n2 c2, .int .i64 h, .int .i64 c, .int .i64 s, .int .i64 st, .slice (some a3) n3 c3] 26, Box (w.heap.size + 1) #[.slice none 0 0, .slice none 0 0, .slice none 0 0, .int .i64 0, .int .i64 0, .int .i64 0, .int .i64 0, .slice none 0 0] 26, Box (w.heap.size + 1 + 1) #[v0, v1, v2, .int .i64 h, .int .i64 c, .int .i64 s, .int .i64 st, .slice (some a3) n3 c3] 26, Val (tail 9 Kd.string behind) [v0] (nl A0 l0), Val (tail 9 Kd.string behind) [v1] (nl A1 l1), Val (tail 3 (Kd.int .i64) (-4711)) [v2] (nl A2 l2), Row (Kd.pair (Kd.int .i64) (tail 56 k56 mark33)) 54 (.slice Au 0 cu) []]) := ⟨hs1⟩
      clear hs1 hc0 HS
      have hc1 : W1.cell? ⟨w.heap.size, 7, none⟩ = some (.slice (some a3) n3 c3) := HS1.out.cell 0 rfl 7
      have hc2 : W1.cell? ⟨w.heap.size + 1 + 1, 7, none⟩ = some (.slice (some a3) n3 c3) := HS1.out.cell 2 rfl 7
      have hf2 := HS1.out.frozen 2 rfl 7
      go_wp2
      clear hc1 hc2 hf2
      go_loopg [7, 8, 9] n3 (fun d i _ _ W => ∃ (k : Nat) (v7 : Value), k + d = n3 ∧ i = .int .i64 (k : Int) ∧ Aside0 (St w W [Box (w.heap.size) #[.slice A0 n0 c0, .slice A1 n1 c1, .slice A2 n2 c2, .int .i64 h, .int .i64 c, .int .i64 s, .int .i64 st, .slice (some a3) n3 c3] 26, Box (w.heap.size + 1) #[.slice none 0 0, .slice none 0 0, .slice none 0 0, .int .i64 0, .int .i64 0, .int .i64 0, .int .i64 0, .slice none 0 0] 26, Box (w.heap.size + 1 + 1) #[v0, v1, v2, .int .i64 h, .int .i64 c, .int .i64 s, .int .i64 st, v7] 26, Val (tail 9 Kd.string behind) [v0] (nl A0 l0), Val (tail 9 Kd.string behind) [v1] (nl A1 l1), Val (tail 3 (Kd.int .i64) (-4711)) [v2] (nl A2 l2), Row (Kd.pair (Kd.int .i64) (tail 56 k56 mark33)) 54 v7 (ds.take k)]))
      case atStart => exact ⟨0, .slice Au 0 cu, by omega, rfl, ⟨HS1.out.set 2 rfl 7 (.slice Au 0 cu)⟩⟩
      case round =>
      clear HS1
      obtain ⟨k, v7, hk, rfl, HS⟩ := hrel
      have hc0 : wr.cell? ⟨w.heap.size, 7, none⟩ = some (.slice (some a3) n3 c3) := HS.out.cell 0 rfl 7
      by_cases hlt : k < n3
      · obtain ⟨ad, cs, had, hcl, ⟨vk, rfl, hvk⟩, hcells⟩ := HR3.out.get_ (0, none) (k : Int) (by omega) (by omega)
        cases had
        rw [Int.toNat_natCast] at hcells hvk
        obtain ⟨x, hx⟩ : ∃ x, x = ds.getD k (0, none) := ⟨_, rfl⟩
        skip
        have hq0 : w.cell? (a3.add (k * 2)) = some (.int .i64 (ds.getD k (0, none)).1) := hcells 0 _ (by simp)
        have hq1 : w.cell? ⟨(a3.add (k * 2)).block, (a3.add (k * 2)).off + 1, none⟩ = some vk := by rw [← add_field _ _ 1 (by omega)]; exact hcells 1 _ rfl
        rw [← hx] at hq0 hvk
        have hxm : x ∈ ds := by rw [hx, List.getD_eq_getElem?_getD, List.getElem?_eq_getElem (by have := HR3.out.1; omega)]; exact List.getElem_mem _
        obtain ⟨xd, xc⟩ := x
        have HX := Aside0.mk hx
        have HXM := Aside0.mk hxm
        obtain ⟨Ak, ck, lk, hvk0, hxc, hzk, hrk⟩ := nrd.open_ hvk
        simp only at hxc
        subst hvk0
        subst hxc
        have HRK := Aside0.mk hrk
        have h24 : lk.length * 24 ≤ 140737488351232 := by
          rcases Ak with _ | ak
          · have := (hzk rfl).1; omega
          · exact HD.out _ HXM.out lk rfl
        have HQ0 := Aside0.mk hq0
        have HQ1 := Aside0.mk hq1
        clear hx hxm hvk hq0 hq1 hcells hcl hrk
        obtain ⟨nk, hnk⟩ : ∃ nk, nk = lk.length := ⟨_, rfl⟩
        rw [← hnk] at HQ1 hzk HRK h24
        have HNK := Aside0.mk hnk.symm
        clear hnk
        have hr0 : wr.cell? (a3.add (k * 2)) = some (.int .i64 xd) := pw_cell_below HS.out.B HQ0.out
        have hr1 : wr.cell? ⟨(a3.add (k * 2)).block, (a3.add (k * 2)).off + 1, none⟩ = some (.slice Ak nk ck) := pw_cell_below HS.out.B HQ1.out
        have hi1 : (0 : Int) ≤ (k : Int) := by omega
        have hi2 : (k : Int) < (n3 : Int) := by omega
        have hnk := fun W => run_neq_slice_nil_any (P := Tryd.prog) W 52 56 Ak nk ck 0 0 Tryd.underlying52
        go_upto_if 94 with (fail)
        obtain ⟨wc, hwc⟩ : ∃ wc, wc = wr.alloc (.cells #[.int .i64 xd, .slice Ak nk ck] 54 (0, 0)) := ⟨_, rfl⟩
        have HS' : Aside0 (St w wc [Box (w.heap.size) #[.slice A0 n0 c0, .slice A1 n1 c1, .slice A2 n2 c2, .int .i64 h, .int .i64 c, .int .i64 s, .int .i64 st, .slice (some a3) n3 c3] 26, Box (w.heap.size + 1) #[.slice none 0 0, .slice none 0 0, .slice none 0 0, .int .i64 0, .int .i64 0, .int .i64 0, .int .i64 0, .slice none 0 0] 26, Box (w.heap.size + 1 + 1) #[v0, v1, v2, .int .i64 h, .int .i64 c, .int .i64 s, .int .i64 st, v7] 26, Val (tail 9 Kd.string behind) [v0] (nl A0 l0), Val (tail 9 Kd.string behind) [v1] (nl A1 l1), Val (tail 3 (Kd.int .i64) (-4711)) [v2] (nl A2 l2), Row (Kd.pair (Kd.int .i64) (tail 56 k56 mark33)) 54 v7 (ds.take k), Box wr.heap.size #[.int .i64 xd, .slice Ak nk ck] 54]) := by rw [hwc]; exact ⟨HS.out.alloc _ 54⟩
        rw [← hwc]
        clear hwc HS hc0 hr0 hr1
        have HS := HS'
        clear HS'
        obtain ⟨gs, hgs⟩ : ∃ gs, gs = wr.heap.size := ⟨_, rfl⟩
        rw [← hgs] at HS ⊢
        clear hgs
        go_cut [9] (fun _ wc => ∃ vc, Aside0 (St w wc [Box (w.heap.size) #[.slice A0 n0 c0, .slice A1 n1 c1, .slice A2 n2 c2, .int .i64 h, .int .i64 c, .int .i64 s, .int .i64 st, .slice (some a3) n3 c3] 26, Box (w.heap.size + 1) #[.slice none 0 0, .slice none 0 0, .slice none 0 0, .int .i64 0, .int .i64 0, .int .i64 0, .int .i64 0, .slice none 0 0] 26, Box (w.heap.size + 1 + 1) #[v0, v1, v2, .int .i64 h, .int .i64 c, .int .i64 s, .int .i64 st, v7] 26, Val (tail 9 Kd.string behind) [v0] (nl A0 l0), Val (tail 9 Kd.string behind) [v1] (nl A1 l1), Val (tail 3 (Kd.int .i64) (-4711)) [v2] (nl A2 l2), Row (Kd.pair (Kd.int .i64) (tail 56 k56 mark33)) 54 v7 (ds.take k), Box gs #[.int .i64 xd, vc] 54, Val (tail 56 k56 mark33) [vc] (nl Ak lk)]))
        case first =>
          rcases Ak with _ | ak
          · obtain ⟨rfl, rfl⟩ := hzk rfl
            go_wp2
            go_meet
            case rel => exact ⟨.slice none 0 0, ⟨HS.out.add (A := Val (tail 56 k56 mark33) [.slice none 0 0] (nl none lk)) rfl⟩⟩
          · have hc0 : wc.cell? ⟨gs, 1, none⟩ = some (.slice (some ak) nk ck) := HS.out.cell 7 rfl 1
            go_wp2
            refine start_ (n := 9) (S := fun w' => w'.cell? ⟨gs, 1, none⟩ = some (.slice (some ak) nk ck)) (ds := []) #[false, false, false, false, false, false, false, false, false] (by kernel_rfl) rfl rfl ((by go_simp)) (fun hHeld => ?_)
            refine pure_ (i := 0) (N := some 95) (v := ?_) (a' := ?_) #[true, false, false, false, false, false, false, false, false] rfl rfl (by kernel_rfl) (fun _ _ _ h => h) (Or.inl ⟨by rfl, ?_⟩) ?_ ?_
            rotate_left
            · intro w'
              go_simp
              with_reducible rfl
            rotate_left
            · simp only [Act.put, List.setIfInBounds_toArray, List.set_cons_zero, List.set_cons_succ, i64_w, i32_w]
              rfl
            refine pure_ (i := 5) (N := some 100) (v := ?_) (a' := ?_) #[true, false, false, false, false, true, false, false, false] rfl rfl (by kernel_rfl) (fun _ _ _ h => h) (Or.inl ⟨by rfl, ?_⟩) ?_ ?_
            rotate_left
            · intro w'
              go_simp
              with_reducible rfl
            rotate_left
            · simp only [Act.put, List.setIfInBounds_toArray, List.set_cons_zero, List.set_cons_succ, i64_w, i32_w]
              rfl
            refine take_ (i := 1) (N := some 96) (v := ?_) (a' := ?_) #[true, true, false, false, false, true, false, false, false] rfl rfl (by kernel_rfl) (fun _ _ _ h => h) (Or.inl ⟨by rfl, ?_⟩) hHeld ?_ ?_
            rotate_left
            · intro w' s0
              go_simp
              with_reducible rfl
            rotate_left
            · simp only [Act.put, List.setIfInBounds_toArray, List.set_cons_zero, List.set_cons_succ, i64_w, i32_w]
              rfl
            refine pure_ (i := 2) (N := some 97) (v := ?_) (a' := ?_) #[true, true, true, false, false, true, false, false, false] rfl rfl (by kernel_rfl) (fun _ _ _ h => h) (Or.inl ⟨by rfl, ?_⟩) ?_ ?_
            rotate_left
            · intro w'
              go_simp
              with_reducible rfl
            rotate_left
            · simp only [Act.put, List.setIfInBounds_toArray, List.set_cons_zero, List.set_cons_succ, i64_w, i32_w]
              rfl
            refine pure_ (i := 3) (N := some 98) (v := ?_) (a' := ?_) #[true, true, true, true, false, true, false, false, false] rfl rfl (by kernel_rfl) (fun _ _ _ h => h) (Or.inl ⟨by rfl, ?_⟩) ?_ ?_
            rotate_left
            · intro w'
              go_simp
              with_reducible rfl
            rotate_left
            · simp only [Act.put, List.setIfInBounds_toArray, List.set_cons_zero, List.set_cons_succ, i64_w, i32_w]
              rfl
            refine take_ (i := 6) (N := some 101) (v := ?_) (a' := ?_) #[true, true, true, true, false, true, true, false, false] rfl rfl (by kernel_rfl) (fun _ _ _ h => h) (Or.inl ⟨by rfl, ?_⟩) hHeld ?_ ?_
            rotate_left
            · intro w' s0
              go_simp
              with_reducible rfl
            rotate_left
            · simp only [Act.put, List.setIfInBounds_toArray, List.set_cons_zero, List.set_cons_succ, i64_w, i32_w]
              rfl
            refine one_ (i := 4) (N := some 99) #[true, true, true, true, true, true, true, false, false] rfl rfl (by kernel_rfl) (by decide) (fun K hK => ?_)
            refine st_makeCap_step k56 HS.out.drew 56 (by rfl) (by rfl) 52 (.const (.int .i64 0)) (.tmp 98) (by rfl) (wrap64 ((nk : Int) + 1)) (by rfl) (by rfl) Tryd.underlying52 (.agg #[.int .i64 0, .int .i64 0, .int .i64 0]) 24 (by kernel_rfl) (by decide) (by decide) (by unfold wrap64; omega) (by unfold wrap64; omega) ?_
            intro u1 W1 hs1
            refine hK.out _ _ ((hs1.cell 7 rfl 1)) (fun hHeld => ?_)
            clear hK K
            refine norm_ (a' := ?_) ?_ ?_
            rotate_left
            · show Act.put _ (some 99) _ = _
              simp only [Act.put, List.setIfInBounds_toArray, List.set_cons_zero, List.set_cons_succ, i64_w, i32_w]
              rfl
            refine one_ (i := 7) (N := some 102) #[true, true, true, true, true, true, true, true, false] rfl rfl (by kernel_rfl) (by decide) (fun K hK => ?_)
            refine st_append_rows_step k56 (Rr := k56.K w) hs1 8 (by rfl) (.tmp 99) (.tmp 101) 52 56 (.agg #[.int .i64 0, .int .i64 0, .int .i64 0]) 24 (by rfl) Tryd.underlying52 (by kernel_rfl) rfl (by decide) (by decide) u1 [] lk (some ak) nk ck rfl (by rfl) (by rfl) (Kd.C_below HRK.out hs1.B) (fun x cs hx => by obtain rfl := k56_open hx; exact k56_mkM _ _ _ _) (by simp only [List.length_nil]; omega) ?_
            intro u2 W2 hs2
            refine hK.out _ _ ((hs2.cell 7 rfl 1)) (fun hHeld => ?_)
            clear hK K
            refine norm_ (a' := ?_) ?_ ?_
            rotate_left
            · show Act.put _ (some 102) _ = _
              simp only [Act.put, List.setIfInBounds_toArray, List.set_cons_zero, List.set_cons_succ, i64_w, i32_w]
              rfl
            refine pure_ (i := 8) (N := some 9) (v := ?_) (a' := ?_) #[true, true, true, true, true, true, true, true, true] rfl rfl (by kernel_rfl) (fun _ _ _ h => h) (Or.inl ⟨by rfl, ?_⟩) ?_ ?_
            rotate_left
            · intro w'
              go_simp
              with_reducible rfl
            rotate_left
            · simp only [Act.put, List.setIfInBounds_toArray, List.set_cons_zero, List.set_cons_succ, i64_w, i32_w]
              rfl
            refine done_ (by kernel_rfl) ?_
            clear hc0
            have HS2 : Aside0 (St w W2 [Box (w.heap.size) #[.slice A0 n0 c0, .slice A1 n1 c1, .slice A2 n2 c2, .int .i64 h, .int .i64 c, .int .i64 s, .int .i64 st, .slice (some a3) n3 c3] 26, Box (w.heap.size + 1) #[.slice none 0 0, .slice none 0 0, .slice none 0 0, .int .i64 0, .int .i64 0, .int .i64 0, .int .i64 0, .slice none 0 0] 26, Box (w.heap.size + 1 + 1) #[v0, v1, v2, .int .i64 h, .int .i64 c, .int .i64 s, .int .i64 st, v7] 26, Val (tail 9 Kd.string behind) [v0] (nl A0 l0), Val (tail 9 Kd.string behind) [v1] (nl A1 l1), Val (tail 3 (Kd.int .i64) (-4711)) [v2] (nl A2 l2), Row (Kd.pair (Kd.int .i64) (tail 56 k56 mark33)) 54 v7 (ds.take k), Box gs #[.int .i64 xd, .slice (some ak) nk ck] 54, Row k56 56 u2 lk]) := ⟨hs2⟩
            clear hs1 hs2
            go_wp2_with (at_builtin; refine stop ?_)
            refine Stop.mk ?_
            refine st_append k56 HS2.out 8 rfl (.tmp 103) (.tmp 105) 52 56 (.agg #[.int .i64 0, .int .i64 0, .int .i64 0]) 24 rfl Tryd.underlying52 (by kernel_rfl) rfl (by decide) (by decide) u2 lk mark33 [.int .i64 (-4711), .int .i64 0, .int .i64 0] rfl rfl rfl (k56_mkM _ _ _ _) (by have := HNK.out; omega) ?_
            intro u3 W3 hs3
            obtain ⟨g3, cc3, rfl, hle⟩ := hs3.form 8 rfl (by simp)
            have HS3 : Aside0 (St w W3 [Box (w.heap.size) #[.slice A0 n0 c0, .slice A1 n1 c1, .slice A2 n2 c2, .int .i64 h, .int .i64 c, .int .i64 s, .int .i64 st, .slice (some a3) n3 c3] 26, Box (w.heap.size + 1) #[.slice none 0 0, .slice none 0 0, .slice none 0 0, .int .i64 0, .int .i64 0, .int .i64 0, .int .i64 0, .slice none 0 0] 26, Box (w.heap.size + 1 + 1) #[v0, v1, v2, .int .i64 h, .int .i64 c, .int .i64 s, .int .i64 st, v7] 26, Val (tail 9 Kd.string behind) [v0] (nl A0 l0), Val (tail 9 Kd.string behind) [v1] (nl A1 l1), Val (tail 3 (Kd.int .i64) (-4711)) [v2] (nl A2 l2), Row (Kd.pair (Kd.int .i64) (tail 56 k56 mark33)) 54 v7 (ds.take k), Box gs #[.int .i64 xd, .slice (some ak) nk ck] 54, Row k56 56 (.slice (some ⟨g3, 0, none⟩) (lk ++ [mark33]).length cc3) (lk ++ [mark33])]) := ⟨hs3⟩
            clear hs3
            have hc1 : W3.cell? ⟨w.heap.size, 7, none⟩ = some (.slice (some a3) n3 c3) := HS3.out.cell 0 rfl 7
            have hc2 : W3.cell? ⟨gs, 1, none⟩ = some (.slice (some ak) nk ck) := HS3.out.cell 7 rfl 1
            have hc3 : W3.cell? ⟨(a3.add (k * 2)).block, (a3.add (k * 2)).off + 1, none⟩ = some (.slice (some ak) nk ck) := pw_cell_below HS3.out.B HQ1.out
            have hf2 := HS3.out.frozen 7 rfl 1
            have hle1 : (0 : Int) ≤ (nk : Int) := by omega
            have hle2 : (nk : Int) ≤ (cc3 : Int) := by have := HNK.out; simp at hle; omega
            clear hle
            go_wp2
            go_meet
            case rel => exact ⟨_, ⟨(HS3.out.set 7 rfl 1 (.slice (some ⟨g3, 0, none⟩) nk cc3)).imp 8 rfl (fun F hF => tail_of_row HNK.out hF)⟩⟩
        case rest =>
          clear HS
          obtain ⟨vc, HS⟩ := hcut
          have hvc : ∃ A n c, vc = .slice A n c := by
            have := HS.out.val 8 rfl
            rcases Ak with _ | ak
            · exact ⟨none, 0, 0, by injection (this : [vc] = [.slice none 0 0])⟩
            · obtain ⟨A, c, h, _⟩ := this
              injection h with h
              exact ⟨_, _, _, h⟩
          obtain ⟨Ac, nc, cc, rfl⟩ := hvc
          have hc1 : wc.cell? ⟨w.heap.size + 1 + 1, 7, none⟩ = some v7 := HS.out.cell 2 rfl 7
          have hc2 : wc.cell? ⟨gs, 0, none⟩ = some (.int .i64 xd) := HS.out.cell 7 rfl 0
          have hc3 : wc.cell? ⟨gs, 1, none⟩ = some (.slice Ac nc cc) := HS.out.cell 7 rfl 1
          go_wp2_with (at_builtin; refine stop ?_)
          clear hc1 hc2 hc3
          refine Stop.mk ?_
          refine st_append_own (Kd.pair (Kd.int .i64) (tail 56 k56 mark33)) HS.out 6 8 (by decide) rfl (.tmp 118) (.tmp 120) 24 54 (.agg #[.int .i64 0, .slice none 0 0]) 32 rfl Tryd.underlying24 (by kernel_rfl) rfl (by decide) (by decide) v7 (ds.take k) (xd, nl Ak lk) [.int .i64 xd, .slice Ac nc cc] rfl rfl rfl rfl (fun G hG => ⟨[_], [_], rfl, rfl, hG⟩) (by rw [List.length_take]; omega) ?_
          intro u4 W4 hs4
          obtain ⟨Au, cu, rfl, _, _⟩ := hs4.row 6 rfl
          obtain ⟨nu, hnu⟩ : ∃ nu, nu = (ds.take k ++ [(xd, nl Ak lk)]).length := ⟨_, rfl⟩
          rw [← hnu] at hs4 ⊢
          clear hnu
          have HS4 := Aside0.mk (hs4.take 7)
          clear hs4 HS
          have hc1 : W4.cell? ⟨w.heap.size + 1 + 1, 7, none⟩ = some v7 := HS4.out.cell 2 rfl 7
          have hf1 := HS4.out.frozen 2 rfl 7
          go_wp2
          go_roundg (gk - 1)
          case measure => omega
          case rel => exact ⟨k + 1, .slice Au nu cu, by omega, by go_num, ⟨by rw [take_snoc_ ds k (0, none) (by have := HR3.out.1; omega), ← HX.out]; exact HS4.out.set 2 rfl 7 (.slice Au nu cu)⟩⟩
      · have hkn : k = n3 := by omega
        subst hkn
        have hlt2 : ¬ ((k : Int) < (k : Int)) := by omega
        go_wp2
        go_meet
        case rel => exact ⟨v7, ⟨by have := HS.out; rwa [List.take_of_length_le (by have := HR3.out.1; omega)] at this⟩⟩
  case rest =>
    clear HS
    obtain ⟨v7, HS⟩ := hcut
    obtain ⟨B0, m0, d0, rfl⟩ := tail_slice (HS.out.val 3 rfl)
    obtain ⟨B1, m1, d1, rfl⟩ := tail_slice (HS.out.val 4 rfl)
    obtain ⟨B2, m2, d2, rfl⟩ := tail_slice (HS.out.val 5 rfl)
    obtain ⟨B7, d7, rfl, _, _⟩ := HS.out.row 6 rfl
    obtain ⟨m7, hm7⟩ : ∃ m, m = ds.length := ⟨_, rfl⟩
    rw [← hm7] at HS
    clear hm7
    have hcc0 : wc.cell? ⟨w.heap.size + 1 + 1, 0, none⟩ = some (.slice B0 m0 d0) := HS.out.cell 2 rfl 0
    have hcc1 : wc.cell? ⟨w.heap.size + 1 + 1, 1, none⟩ = some (.slice B1 m1 d1) := HS.out.cell 2 rfl 1
    have hcc2 : wc.cell? ⟨w.heap.size + 1 + 1, 2, none⟩ = some (.slice B2 m2 d2) := HS.out.cell 2 rfl 2
    have hcc7 : wc.cell? ⟨w.heap.size + 1 + 1, 7, none⟩ = some (.slice B7 m7 d7) := HS.out.cell 2 rfl 7
    have hcc3 : wc.cell? ⟨w.heap.size + 1 + 1, 3, none⟩ = some (.int .i64 h) := HS.out.cell 2 rfl 3
    have hcc4 : wc.cell? ⟨w.heap.size + 1 + 1, 4, none⟩ = some (.int .i64 c) := HS.out.cell 2 rfl 4
    have hcc5 : wc.cell? ⟨w.heap.size + 1 + 1, 5, none⟩ = some (.int .i64 s) := HS.out.cell 2 rfl 5
    have hcc6 : wc.cell? ⟨w.heap.size + 1 + 1, 6, none⟩ = some (.int .i64 st) := HS.out.cell 2 rfl 6
    have hcz0 : wc.cell? ⟨w.heap.size + 1, 0, none⟩ = some (.slice none 0 0) := HS.out.cell 1 rfl 0
    have hcz1 : wc.cell? ⟨w.heap.size + 1, 1, none⟩ = some (.slice none 0 0) := HS.out.cell 1 rfl 1
    have hcz2 : wc.cell? ⟨w.heap.size + 1, 2, none⟩ = some (.slice none 0 0) := HS.out.cell 1 rfl 2
    have hcz3 : wc.cell? ⟨w.heap.size + 1, 3, none⟩ = some (.int .i64 0) := HS.out.cell 1 rfl 3
    have hcz4 : wc.cell? ⟨w.heap.size + 1, 4, none⟩ = some (.int .i64 0) := HS.out.cell 1 rfl 4
    have hcz5 : wc.cell? ⟨w.heap.size + 1, 5, none⟩ = some (.int .i64 0) := HS.out.cell 1 rfl 5
    have hcz6 : wc.cell? ⟨w.heap.size + 1, 6, none⟩ = some (.int .i64 0) := HS.out.cell 1 rfl 6
    have hcz7 : wc.cell? ⟨w.heap.size + 1, 7, none⟩ = some (.slice none 0 0) := HS.out.cell 1 rfl 7
    have hfz0 := HS.out.frozen 1 rfl 0
    have hfz1 := HS.out.frozen 1 rfl 1
    have hfz2 := HS.out.frozen 1 rfl 2
    have hfz3 := HS.out.frozen 1 rfl 3
    have hfz4 := HS.out.frozen 1 rfl 4
    have hfz5 := HS.out.frozen 1 rfl 5
    have hfz6 := HS.out.frozen 1 rfl 6
    have hfz7 := HS.out.frozen 1 rfl 7
    go_wp2
    obtain ⟨wf, hwf⟩ : ∃ wf, wf = ((((((((wc.setCell ⟨w.heap.size + 1, 0, none⟩ (.slice B0 m0 d0)).setCell ⟨w.heap.size + 1, 1, none⟩ (.slice B1 m1 d1)).setCell ⟨w.heap.size + 1, 2, none⟩ (.slice B2 m2 d2)).setCell ⟨w.heap.size + 1, 3, none⟩ (.int .i64 h)).setCell ⟨w.heap.size + 1, 4, none⟩ (.int .i64 c)).setCell ⟨w.heap.size + 1, 5, none⟩ (.int .i64 s)).setCell ⟨w.heap.size + 1, 6, none⟩ (.int .i64 st)).setCell ⟨w.heap.size + 1, 7, none⟩ (.slice B7 m7 d7)) := ⟨_, rfl⟩
    have HF0 := ((((((((HS.out.set 1 rfl 0 (.slice B0 m0 d0)).set 1 rfl 1 (.slice B1 m1 d1)).set 1 rfl 2 (.slice B2 m2 d2)).set 1 rfl 3 (.int .i64 h)).set 1 rfl 4 (.int .i64 c)).set 1 rfl 5 (.int .i64 s)).set 1 rfl 6 (.int .i64 st)).set 1 rfl 7 (.slice B7 m7 d7))
    rw [← hwf] at HF0 ⊢
    have HF : St w wf [Box (w.heap.size) #[.slice A0 n0 c0, .slice A1 n1 c1, .slice A2 n2 c2, .int .i64 h, .int .i64 c, .int .i64 s, .int .i64 st, .slice A3 n3 c3] 26, Box (w.heap.size + 1) #[.slice B0 m0 d0, .slice B1 m1 d1, .slice B2 m2 d2, .int .i64 h, .int .i64 c, .int .i64 s, .int .i64 st, .slice B7 m7 d7] 26, Box (w.heap.size + 1 + 1) #[.slice B0 m0 d0, .slice B1 m1 d1, .slice B2 m2 d2, .int .i64 h, .int .i64 c, .int .i64 s, .int .i64 st, .slice B7 m7 d7] 26, Val (tail 9 Kd.string behind) [.slice B0 m0 d0] (nl A0 l0), Val (tail 9 Kd.string behind) [.slice B1 m1 d1] (nl A1 l1), Val (tail 3 (Kd.int .i64) (-4711)) [.slice B2 m2 d2] (nl A2 l2), Row (Kd.pair (Kd.int .i64) (tail 56 k56 mark33)) 54 (.slice B7 m7 d7) ds] := HF0
    clear HF0 hwf HS hcc0 hcz0 hfz0 hcc1 hcz1 hfz1 hcc2 hcz2 hfz2 hcc3 hcz3 hfz3 hcc4 hcz4 hfz4 hcc5 hcz5 hfz5 hcc6 hcz6 hfz6 hcc7 hcz7 hfz7
    have hq0 : wf.cell? ⟨w.heap.size + 1, 0, none⟩ = some (.slice B0 m0 d0) := HF.cell 1 rfl 0
    have hq1 : wf.cell? ⟨w.heap.size + 1, 1, none⟩ = some (.slice B1 m1 d1) := HF.cell 1 rfl 1
    have hq2 : wf.cell? ⟨w.heap.size + 1, 2, none⟩ = some (.slice B2 m2 d2) := HF.cell 1 rfl 2
    have hq3 : wf.cell? ⟨w.heap.size + 1, 3, none⟩ = some (.int .i64 h) := HF.cell 1 rfl 3
    have hq4 : wf.cell? ⟨w.heap.size + 1, 4, none⟩ = some (.int .i64 c) := HF.cell 1 rfl 4
    have hq5 : wf.cell? ⟨w.heap.size + 1, 5, none⟩ = some (.int .i64 s) := HF.cell 1 rfl 5
    have hq6 : wf.cell? ⟨w.heap.size + 1, 6, none⟩ = some (.int .i64 st) := HF.cell 1 rfl 6
    have hq7 : wf.cell? ⟨w.heap.size + 1, 7, none⟩ = some (.slice B7 m7 d7) := HF.cell 1 rfl 7
    refine bodyPost_ret (v := .agg #[.slice B0 m0 d0, .slice B1 m1 d1, .slice B2 m2 d2, .int .i64 h, .int .i64 c, .int .i64 s, .int .i64 st, .slice B7 m7 d7]) (by simp [results, Tryd.results8, go_sem, hq0, hq1, hq2, hq3, hq4, hq5, hq6, hq7]) rfl ⟨_, _, _, _, rfl, HF.drop 3⟩
end OwnW
end Go.Proofs.YtmhndfnmdkeiaaaDoor
