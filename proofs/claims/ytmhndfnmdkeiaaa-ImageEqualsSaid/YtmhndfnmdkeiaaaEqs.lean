/- slices.Equal of texts, of whole numbers, of instructions: whether the lists are the same. No condition. -/
import Derived.Test.YtmhndfnmdkeiaaaPImageEqualsx
import Derived.Test.YtmhndfnmdkeiaaaSep
namespace Go.Proofs.Ytmhndfnmdkeiaaa
open Go.RowKit Go.Proofs.YtmhndfnmdkeiaaaW.PrintWords Go.Proofs.YtmhndfnmdkeiaaaW.PrintLast Go.Proofs.YtmhndfnmdkeiaaaW.PrintMore
open PImageEquals KitW
namespace EqW
set_option linter.unusedVariables false
set_option linter.unusedSimpArgs false
attribute [local go_sem] max2_int min2_int max_two min_two max_three min_three max_four min_four
attribute [local go_sem high] eqA33
instance : DecidableEq S33 := fun a b => decidable_of_iff (a.f0 = b.f0 ∧ a.f1 = b.f1 ∧ a.f2 = b.f2) ⟨fun h => by cases a; cases b; simp_all, fun h => by rw [h]; exact ⟨rfl, rfl, rfl⟩⟩
theorem take_step {α : Type} {a b : List α} {k : Nat} (d : α) (h : a.take k = b.take k) (ha : k < a.length) (hb : k < b.length) (he : a.getD k d = b.getD k d) : a.take (k + 1) = b.take (k + 1) := by
  rw [List.take_succ_eq_append_getElem ha, List.take_succ_eq_append_getElem hb, h]
  rw [List.getD_eq_getElem?_getD, List.getElem?_eq_getElem ha, List.getD_eq_getElem?_getD, List.getElem?_eq_getElem hb] at he
  exact congrArg (fun x => _ ++ [x]) he
theorem toList_ne {a b : ByteArray} (h : a ≠ b) : (a.toList == b.toList) = false := by
  rw [ByteArray.toList_eq, ByteArray.toList_eq, beq_eq_false_iff_ne]
  exact fun e => h (ByteArray.ext (Array.ext' e))
theorem ne_at {α : Type} {a b : List α} {k : Nat} (d : α) (he : a.getD k d ≠ b.getD k d) : a ≠ b := fun h => he (by rw [h])

set_option maxRecDepth 100000 in
set_option maxHeartbeats 1000000 in
theorem eqS_calls (A0 : Option Addr) (c0 : Nat) (l0 : List ByteArray) (A1 : Option Addr) (c1 : Nat) (l1 : List ByteArray) (w : World) (hr0 : Kd.C Kd.string w A0 l0.length l0) (hr1 : Kd.C Kd.string w A1 l1.length l1) :
    Calls Try.prog 8 #[.slice A0 l0.length c0, .slice A1 l1.length c1] w fun e w' => e = .returned (.bool (decide (l0 = l1))) ∧ Drawn0 w w' := by
  have HR0 := Aside0.mk hr0
  have HR1 := Aside0.mk hr1
  have hm0 : l0.length ≤ 9223372036854775807 := hr0.2.1
  have hm1 : l1.length ≤ 9223372036854775807 := hr1.2.1
  clear hr0 hr1
  by_cases hl : l0.length = l1.length
  · obtain ⟨n, hn⟩ : ∃ n, n = l0.length := ⟨_, rfl⟩
    have hn1 : n = l1.length := hn.trans hl
    rw [← hn, ← hn1]
    rw [← hn] at HR0 hm0
    rw [← hn1] at HR1
    have HN := Aside0.mk hn
    have HN1 := Aside0.mk hn1
    clear hn hn1 hl hm1
    go_enter Try.func8, Try.ntmps8
    go_wp2
    go_loopg [13, 5] n (fun g v _ W => ∃ k : Nat, k + g = n ∧ v = .int .i64 (k : Int) ∧ Aside0 (l0.take k = l1.take k) ∧ Drawn0 w W)
    case atStart => exact ⟨0, by omega, rfl, ⟨by simp⟩, Drawn0.refl _⟩
    case round =>
      obtain ⟨k, hk, rfl, HT, ⟨m1, rfl⟩⟩ := hrel
      by_cases hlt : k < n
      · obtain ⟨ad0, cs0, had0, _, hK0, hc0⟩ := Kd.C_get HR0.out ByteArray.empty (k : Int) (by omega) (by omega)
        obtain ⟨ad1, cs1, had1, _, hK1, hc1⟩ := Kd.C_get HR1.out ByteArray.empty (k : Int) (by omega) (by omega)
        cases had0
        cases had1
        rw [Int.toNat_natCast] at hK0 hK1 hc0 hc1
        obtain rfl := hK0
        obtain rfl := hK1
        obtain ⟨x, hx⟩ : ∃ x, x = l0.getD k ByteArray.empty := ⟨_, rfl⟩
        rw [← hx] at hc0
        have g00 : w.cell? (ad0.add k) = some (.string x) := (by have q : w.cell? (ad0.add (k * 1 + 0)) = some (.string x) := hc0 0 _ rfl; rwa [Nat.mul_one, Nat.add_zero] at q)
        obtain ⟨y, hy⟩ : ∃ y, y = l1.getD k ByteArray.empty := ⟨_, rfl⟩
        rw [← hy] at hc1
        have g10 : w.cell? (ad1.add k) = some (.string y) := (by have q : w.cell? (ad1.add (k * 1 + 0)) = some (.string y) := hc1 0 _ rfl; rwa [Nat.mul_one, Nat.add_zero] at q)
        have HX := Aside0.mk hx
        have HY := Aside0.mk hy
        clear hx hy hc0 hc1
        have hi1 : (0 : Int) ≤ (k : Int) := by omega
        have hi2 : (k : Int) < (n : Int) := by omega
        by_cases he : x = y
        · have HE := Aside0.mk he
          subst he
          go_wp2
          repeat (go_quiet (fail); go_wp2)
          go_roundg (gk - 1)
          case measure => omega
          case rel => exact ⟨k + 1, by omega, by go_num, ⟨take_step ByteArray.empty HT.out (by have := HN.out; omega) (by have := HN1.out; omega) (by rw [← HX.out, ← HY.out])⟩, by repeat (first | exact Drawn0.refl _ | apply Drawn0.step)⟩
        · have he1 : (x.toList == y.toList) = false := toList_ne he
          have HNE : l0 ≠ l1 := ne_at ByteArray.empty (by rw [← HX.out, ← HY.out]; exact he)
          have HNE := Aside0.mk (decide_eq_false HNE)
          go_wp2
          repeat (go_quiet (fail); go_wp2)
          go_ret
          exact ⟨by rw [HNE.out]; rfl, by repeat (first | exact Drawn0.refl _ | apply Drawn0.step)⟩
      · have hkn : k = n := by omega
        have hlt2 : ¬ ((k : Int) < (n : Int)) := by omega
        have HT2 := Aside0.mk (decide_eq_true (by have := HT.out; rw [hkn, List.take_of_length_le (by have := HN.out; omega), List.take_of_length_le (by have := HN1.out; omega)] at this; exact this : l0 = l1))
        clear hkn
        go_wp2
        go_ret
        exact ⟨by rw [HT2.out]; rfl, by repeat (first | exact Drawn0.refl _ | apply Drawn0.step)⟩
  · have hl1 : ((l0.length : Int) != (l1.length : Int)) = true := by rw [bne_iff_ne]; omega
    have hl2 : ((l0.length : Int) == (l1.length : Int)) = false := by rw [beq_eq_false_iff_ne]; omega
    have hl3 : (l0.length == l1.length) = false := by simpa using hl
    have HNE := Aside0.mk (decide_eq_false (fun h => hl (by rw [h]) : l0 ≠ l1))
    clear hl
    go_enter Try.func8, Try.ntmps8
    go_wp2
    go_ret
    exact ⟨by rw [HNE.out]; rfl, Drawn0.refl _⟩

set_option maxRecDepth 100000 in
set_option maxHeartbeats 1000000 in
theorem eqI_calls (A0 : Option Addr) (c0 : Nat) (l0 : List Int) (A1 : Option Addr) (c1 : Nat) (l1 : List Int) (w : World) (hr0 : Kd.C (Kd.int .i64) w A0 l0.length l0) (hr1 : Kd.C (Kd.int .i64) w A1 l1.length l1) :
    Calls Try.prog 9 #[.slice A0 l0.length c0, .slice A1 l1.length c1] w fun e w' => e = .returned (.bool (decide (l0 = l1))) ∧ Drawn0 w w' := by
  have HR0 := Aside0.mk hr0
  have HR1 := Aside0.mk hr1
  have hm0 : l0.length ≤ 9223372036854775807 := hr0.2.1
  have hm1 : l1.length ≤ 9223372036854775807 := hr1.2.1
  clear hr0 hr1
  by_cases hl : l0.length = l1.length
  · obtain ⟨n, hn⟩ : ∃ n, n = l0.length := ⟨_, rfl⟩
    have hn1 : n = l1.length := hn.trans hl
    rw [← hn, ← hn1]
    rw [← hn] at HR0 hm0
    rw [← hn1] at HR1
    have HN := Aside0.mk hn
    have HN1 := Aside0.mk hn1
    clear hn hn1 hl hm1
    go_enter Try.func9, Try.ntmps9
    go_wp2
    go_loopg [13, 5] n (fun g v _ W => ∃ k : Nat, k + g = n ∧ v = .int .i64 (k : Int) ∧ Aside0 (l0.take k = l1.take k) ∧ Drawn0 w W)
    case atStart => exact ⟨0, by omega, rfl, ⟨by simp⟩, Drawn0.refl _⟩
    case round =>
      obtain ⟨k, hk, rfl, HT, ⟨m1, rfl⟩⟩ := hrel
      by_cases hlt : k < n
      · obtain ⟨ad0, cs0, had0, _, hK0, hc0⟩ := Kd.C_get HR0.out (0 : Int) (k : Int) (by omega) (by omega)
        obtain ⟨ad1, cs1, had1, _, hK1, hc1⟩ := Kd.C_get HR1.out (0 : Int) (k : Int) (by omega) (by omega)
        cases had0
        cases had1
        rw [Int.toNat_natCast] at hK0 hK1 hc0 hc1
        obtain rfl := hK0
        obtain rfl := hK1
        obtain ⟨x, hx⟩ : ∃ x, x = l0.getD k (0 : Int) := ⟨_, rfl⟩
        rw [← hx] at hc0
        have g00 : w.cell? (ad0.add k) = some (.int .i64 x) := (by have q : w.cell? (ad0.add (k * 1 + 0)) = some (.int .i64 x) := hc0 0 _ rfl; rwa [Nat.mul_one, Nat.add_zero] at q)
        obtain ⟨y, hy⟩ : ∃ y, y = l1.getD k (0 : Int) := ⟨_, rfl⟩
        rw [← hy] at hc1
        have g10 : w.cell? (ad1.add k) = some (.int .i64 y) := (by have q : w.cell? (ad1.add (k * 1 + 0)) = some (.int .i64 y) := hc1 0 _ rfl; rwa [Nat.mul_one, Nat.add_zero] at q)
        have HX := Aside0.mk hx
        have HY := Aside0.mk hy
        clear hx hy hc0 hc1
        have hi1 : (0 : Int) ≤ (k : Int) := by omega
        have hi2 : (k : Int) < (n : Int) := by omega
        by_cases he : x = y
        · have HE := Aside0.mk he
          subst he
          go_wp2
          repeat (go_quiet (fail); go_wp2)
          go_roundg (gk - 1)
          case measure => omega
          case rel => exact ⟨k + 1, by omega, by go_num, ⟨take_step (0 : Int) HT.out (by have := HN.out; omega) (by have := HN1.out; omega) (by rw [← HX.out, ← HY.out])⟩, by repeat (first | exact Drawn0.refl _ | apply Drawn0.step)⟩
        · have he1 : (x == y) = false := by simpa using he
          have he2 : (x != y) = true := by simpa using he
          have HNE : l0 ≠ l1 := ne_at (0 : Int) (by rw [← HX.out, ← HY.out]; exact he)
          have HNE := Aside0.mk (decide_eq_false HNE)
          go_wp2
          repeat (go_quiet (fail); go_wp2)
          go_ret
          exact ⟨by rw [HNE.out]; rfl, by repeat (first | exact Drawn0.refl _ | apply Drawn0.step)⟩
      · have hkn : k = n := by omega
        have hlt2 : ¬ ((k : Int) < (n : Int)) := by omega
        have HT2 := Aside0.mk (decide_eq_true (by have := HT.out; rw [hkn, List.take_of_length_le (by have := HN.out; omega), List.take_of_length_le (by have := HN1.out; omega)] at this; exact this : l0 = l1))
        clear hkn
        go_wp2
        go_ret
        exact ⟨by rw [HT2.out]; rfl, by repeat (first | exact Drawn0.refl _ | apply Drawn0.step)⟩
  · have hl1 : ((l0.length : Int) != (l1.length : Int)) = true := by rw [bne_iff_ne]; omega
    have hl2 : ((l0.length : Int) == (l1.length : Int)) = false := by rw [beq_eq_false_iff_ne]; omega
    have hl3 : (l0.length == l1.length) = false := by simpa using hl
    have HNE := Aside0.mk (decide_eq_false (fun h => hl (by rw [h]) : l0 ≠ l1))
    clear hl
    go_enter Try.func9, Try.ntmps9
    go_wp2
    go_ret
    exact ⟨by rw [HNE.out]; rfl, Drawn0.refl _⟩

set_option maxRecDepth 100000 in
set_option maxHeartbeats 1000000 in
theorem eqC_calls (A0 : Option Addr) (c0 : Nat) (l0 : List S33) (A1 : Option Addr) (c1 : Nat) (l1 : List S33) (w : World) (hr0 : Kd.C k33 w A0 l0.length l0) (hr1 : Kd.C k33 w A1 l1.length l1) :
    Calls Try.prog 12 #[.slice A0 l0.length c0, .slice A1 l1.length c1] w fun e w' => e = .returned (.bool (decide (l0 = l1))) ∧ Drawn0 w w' := by
  have HR0 := Aside0.mk hr0
  have HR1 := Aside0.mk hr1
  have hm0 : l0.length ≤ 9223372036854775807 := hr0.2.1
  have hm1 : l1.length ≤ 9223372036854775807 := hr1.2.1
  clear hr0 hr1
  by_cases hl : l0.length = l1.length
  · obtain ⟨n, hn⟩ : ∃ n, n = l0.length := ⟨_, rfl⟩
    have hn1 : n = l1.length := hn.trans hl
    rw [← hn, ← hn1]
    rw [← hn] at HR0 hm0
    rw [← hn1] at HR1
    have HN := Aside0.mk hn
    have HN1 := Aside0.mk hn1
    clear hn hn1 hl hm1
    go_enter Try.func12, Try.ntmps12
    go_wp2
    go_loopg [13, 5] n (fun g v _ W => ∃ k : Nat, k + g = n ∧ v = .int .i64 (k : Int) ∧ Aside0 (l0.take k = l1.take k) ∧ Drawn0 w W)
    case atStart => exact ⟨0, by omega, rfl, ⟨by simp⟩, Drawn0.refl _⟩
    case round =>
      obtain ⟨k, hk, rfl, HT, ⟨m1, rfl⟩⟩ := hrel
      by_cases hlt : k < n
      · obtain ⟨ad0, cs0, had0, _, hK0, hc0⟩ := Kd.C_get HR0.out z33 (k : Int) (by omega) (by omega)
        obtain ⟨ad1, cs1, had1, _, hK1, hc1⟩ := Kd.C_get HR1.out z33 (k : Int) (by omega) (by omega)
        cases had0
        cases had1
        rw [Int.toNat_natCast] at hK0 hK1 hc0 hc1
        obtain rfl := k33_open hK0
        obtain rfl := k33_open hK1
        obtain ⟨x, hx⟩ : ∃ x, x = l0.getD k z33 := ⟨_, rfl⟩
        rw [← hx] at hc0
        have g00 : w.cell? (ad0.add (k * 3)) = some (.int .i64 x.f0) := hc0 0 _ rfl
        have g01 : w.cell? ⟨(ad0.add (k * 3)).block, (ad0.add (k * 3)).off + 1, none⟩ = some (.int .i64 x.f1) := by rw [← add_field _ _ 1 (by omega)]; exact hc0 1 _ rfl
        have g02 : w.cell? ⟨(ad0.add (k * 3)).block, (ad0.add (k * 3)).off + 2, none⟩ = some (.int .i64 x.f2) := by rw [← add_field _ _ 2 (by omega)]; exact hc0 2 _ rfl
        obtain ⟨y, hy⟩ : ∃ y, y = l1.getD k z33 := ⟨_, rfl⟩
        rw [← hy] at hc1
        have g10 : w.cell? (ad1.add (k * 3)) = some (.int .i64 y.f0) := hc1 0 _ rfl
        have g11 : w.cell? ⟨(ad1.add (k * 3)).block, (ad1.add (k * 3)).off + 1, none⟩ = some (.int .i64 y.f1) := by rw [← add_field _ _ 1 (by omega)]; exact hc1 1 _ rfl
        have g12 : w.cell? ⟨(ad1.add (k * 3)).block, (ad1.add (k * 3)).off + 2, none⟩ = some (.int .i64 y.f2) := by rw [← add_field _ _ 2 (by omega)]; exact hc1 2 _ rfl
        have HX := Aside0.mk hx
        have HY := Aside0.mk hy
        clear hx hy hc0 hc1
        have hi1 : (0 : Int) ≤ (k : Int) := by omega
        have hi2 : (k : Int) < (n : Int) := by omega
        by_cases he : x = y
        · have HE := Aside0.mk he
          subst he
          go_wp2
          repeat (go_quiet (fail); go_wp2)
          go_roundg (gk - 1)
          case measure => omega
          case rel => exact ⟨k + 1, by omega, by go_num, ⟨take_step z33 HT.out (by have := HN.out; omega) (by have := HN1.out; omega) (by rw [← HX.out, ← HY.out])⟩, by repeat (first | exact Drawn0.refl _ | apply Drawn0.step)⟩
        · have he1 : (x.f0 == y.f0 && (x.f1 == y.f1 && x.f2 == y.f2)) = false := by
            by_cases q0 : x.f0 = y.f0 <;> by_cases q1 : x.f1 = y.f1 <;> by_cases q2 : x.f2 = y.f2 <;> simp [q0, q1, q2]
            exact he (by cases x; cases y; simp_all)
          have HNE : l0 ≠ l1 := ne_at z33 (by rw [← HX.out, ← HY.out]; exact he)
          have HNE := Aside0.mk (decide_eq_false HNE)
          go_wp2
          repeat (go_quiet (fail); go_wp2)
          go_ret
          exact ⟨by rw [HNE.out]; rfl, by repeat (first | exact Drawn0.refl _ | apply Drawn0.step)⟩
      · have hkn : k = n := by omega
        have hlt2 : ¬ ((k : Int) < (n : Int)) := by omega
        have HT2 := Aside0.mk (decide_eq_true (by have := HT.out; rw [hkn, List.take_of_length_le (by have := HN.out; omega), List.take_of_length_le (by have := HN1.out; omega)] at this; exact this : l0 = l1))
        clear hkn
        go_wp2
        go_ret
        exact ⟨by rw [HT2.out]; rfl, by repeat (first | exact Drawn0.refl _ | apply Drawn0.step)⟩
  · have hl1 : ((l0.length : Int) != (l1.length : Int)) = true := by rw [bne_iff_ne]; omega
    have hl2 : ((l0.length : Int) == (l1.length : Int)) = false := by rw [beq_eq_false_iff_ne]; omega
    have hl3 : (l0.length == l1.length) = false := by simpa using hl
    have HNE := Aside0.mk (decide_eq_false (fun h => hl (by rw [h]) : l0 ≠ l1))
    clear hl
    go_enter Try.func12, Try.ntmps12
    go_wp2
    go_ret
    exact ⟨by rw [HNE.out]; rfl, Drawn0.refl _⟩

end EqW
end Go.Proofs.Ytmhndfnmdkeiaaa
