/- image.Equal and what it calls: it answers whether all parts are the same. No condition. -/
import Derived.Test.YtmhndfnmdkeiaaaPImageEqualsx
import Derived.Test.YtmhndfnmdkeiaaaRefEq
namespace Go.Proofs.Ytmhndfnmdkeiaaa
open Go.RowKit Go.Proofs.YtmhndfnmdkeiaaaW.PrintWords Go.Proofs.YtmhndfnmdkeiaaaW.PrintLast Go.Proofs.YtmhndfnmdkeiaaaW.PrintMore
open PImageEquals KitW EqW RefEq
namespace EqF
set_option linter.unusedVariables false
set_option linter.unusedSimpArgs false
attribute [local go_sem] max2_int min2_int max_two min_two max_three min_three max_four min_four

set_option maxRecDepth 100000 in
set_option maxHeartbeats 1000000 in
theorem seg_calls (x y : S31) (A0 : Option Addr) (c0 : Nat) (A1 : Option Addr) (c1 : Nat) (w : World) (hr0 : k33.C w A0 x.f1.length x.f1) (hr1 : k33.C w A1 y.f1.length y.f1) :
    Calls Try.prog 11 #[.agg #[.int .i64 x.f0, .slice A0 x.f1.length c0], .agg #[.int .i64 y.f0, .slice A1 y.f1.length c1]] w fun e w' => e = .returned (.bool (decide (x = y))) ∧ Below w.heap.size w w' := by
  have HR0 := Aside0.mk hr0
  have HR1 := Aside0.mk hr1
  clear hr0 hr1
  have HS := Aside0.mk (((St.start w).alloc #[.int .i64 x.f0, .slice A0 x.f1.length c0] 31).alloc #[.int .i64 y.f0, .slice A1 y.f1.length c1] 31)
  by_cases hd : x.f0 = y.f0
  · have hd1 : (x.f0 == y.f0) = true := by simp [hd]
    have HD := Aside0.mk hd
    clear hd
    go_enter Try.func11, Try.ntmps11
    go_wp2_with (go_at_call 12; refine stop ?_)
    refine Stop.mk ?_
    refine (eqC_calls A0 c0 x.f1 A1 c1 y.f1 _ (Kd.C_below HR0.out (by exact HS.out.B)) (Kd.C_below HR1.out (by exact HS.out.B))).mono ?_
    rintro e w1 ⟨rfl, hdr⟩
    have HS1 := Aside0.mk (HS.out.drawn hdr)
    clear hdr HS
    go_wp2
    go_ret
    exact ⟨by rw [show decide (x = y) = decide (x.f1 = y.f1) from by rw [decide_eq_decide]; exact ⟨fun h => by rw [h], fun h => seg_ext HD.out h⟩]; rfl, HS1.out.B⟩
  · have hd1 : (x.f0 == y.f0) = false := by simpa using hd
    have HD := Aside0.mk hd
    clear hd
    go_enter Try.func11, Try.ntmps11
    go_wp2
    go_ret
    exact ⟨by rw [decide_eq_false (fun h => HD.out (by rw [h]))]; rfl, HS.out.B⟩

set_option maxRecDepth 100000 in
set_option maxHeartbeats 1000000 in
theorem func_calls (A0 : Option Addr) (c0 : Nat) (l0 : List S31) (A1 : Option Addr) (c1 : Nat) (l1 : List S31) (w : World) (hr0 : k31.C w A0 l0.length l0) (hr1 : k31.C w A1 l1.length l1) :
    Calls Try.prog 10 #[.slice A0 l0.length c0, .slice A1 l1.length c1, .func (.func 11) #[] #[]] w fun e w' => e = .returned (.bool (decide (l0 = l1))) ∧ Below w.heap.size w w' := by
  have HR0 := Aside0.mk hr0
  have HR1 := Aside0.mk hr1
  have hm0 : l0.length ≤ 9223372036854775807 := hr0.2.1
  have hm1 : l1.length ≤ 9223372036854775807 := hr1.2.1
  clear hr0 hr1
  by_cases hl : l0.length = l1.length
  · obtain ⟨n, hn⟩ : ∃ n, n = l0.length := ⟨_, rfl⟩
    have hn1 : n = l1.length := hn.trans hl
    rw [← hn, ← hn1]
    rw [← hn] at HR0 hm0
    rw [← hn1] at HR1
    have HN := Aside0.mk hn
    have HN1 := Aside0.mk hn1
    clear hn hn1 hl hm1
    go_enter Try.func10, Try.ntmps10
    go_wp2
    go_loopg [17, 7, 8, 9] n (fun g v _ _ _ W => ∃ k : Nat, k + g = n ∧ v = .int .i64 (k : Int) ∧ Aside0 (l0.take k = l1.take k) ∧ Aside0 (Below w.heap.size w W))
    case atStart => exact ⟨0, by omega, rfl, ⟨by simp⟩, ⟨Below.refl _ _⟩⟩
    case round =>
      obtain ⟨k, hk, rfl, HT, HB⟩ := hrel
      by_cases hlt : k < n
      · obtain ⟨ad0, B0, m0, had0, g00, g01, hle0, hC0⟩ := at_T31 HR0.out (k : Int) (by omega) (by omega)
        obtain ⟨ad1, B1, m1, had1, g10, g11, hle1, hC1⟩ := at_T31 HR1.out (k : Int) (by omega) (by omega)
        cases had0
        cases had1
        rw [Int.toNat_natCast] at g00 g01 g10 g11
        obtain ⟨x, hx⟩ : ∃ x, x = l0.getD k z31 := ⟨_, rfl⟩
        obtain ⟨y, hy⟩ : ∃ y, y = l1.getD k z31 := ⟨_, rfl⟩
        have hx' : rd_T31 l0 (k : Int) = x := by rw [hx]; simp [rd_T31]
        have hy' : rd_T31 l1 (k : Int) = y := by rw [hy]; simp [rd_T31]
        rw [hx'] at g00 g01 hC0
        rw [hy'] at g10 g11 hC1
        have HX := Aside0.mk hx
        have HY := Aside0.mk hy
        have HC0 := Aside0.mk (Kd.C_below hC0 HB.out)
        have HC1 := Aside0.mk (Kd.C_below hC1 HB.out)
        replace g00 := pw_cell_below HB.out g00
        replace g01 := pw_cell_below HB.out g01
        replace g10 := pw_cell_below HB.out g10
        replace g11 := pw_cell_below HB.out g11
        clear hx hy hx' hy' hle0 hle1 hC0 hC1
        have hi1 : (0 : Int) ≤ (k : Int) := by omega
        have hi2 : (k : Int) < (n : Int) := by omega
        go_upto_region 6 with (fail)
        obtain ⟨w6, hw6⟩ : ∃ w6, w6 = wr.alloc (.cells #[.int .i64 x.f0, .slice B0 x.f1.length m0] 31 (0, 0)) := ⟨_, rfl⟩
        have HS6 : Aside0 (St wr w6 [Box wr.heap.size #[.int .i64 x.f0, .slice B0 x.f1.length m0] 31]) := by rw [hw6]; exact ⟨(St.start wr).alloc _ _⟩
        rw [← hw6]
        clear hw6
        replace g10 := pw_cell_below HS6.out.B g10
        replace g11 := pw_cell_below HS6.out.B g11
        go_upto_region 7 with (fail)
        obtain ⟨w7, hw7⟩ : ∃ w7, w7 = w6.alloc (.cells #[.int .i64 y.f0, .slice B1 y.f1.length m1] 31 (0, 0)) := ⟨_, rfl⟩
        have HB2 : Aside0 (St wr w7 [Box wr.heap.size #[.int .i64 x.f0, .slice B0 x.f1.length m0] 31, Box w6.heap.size #[.int .i64 y.f0, .slice B1 y.f1.length m1] 31]) := by rw [hw7]; exact ⟨HS6.out.alloc _ _⟩
        rw [← hw7]
        clear hw7
        have g20 : w7.cell? ⟨wr.heap.size, 0, none⟩ = some (.int .i64 x.f0) := HB2.out.cell 0 rfl 0
        have g21 : w7.cell? ⟨wr.heap.size, 1, none⟩ = some (.slice B0 x.f1.length m0) := HB2.out.cell 0 rfl 1
        have g30 : w7.cell? ⟨w6.heap.size, 0, none⟩ = some (.int .i64 y.f0) := HB2.out.cell 1 rfl 0
        have g31 : w7.cell? ⟨w6.heap.size, 1, none⟩ = some (.slice B1 y.f1.length m1) := HB2.out.cell 1 rfl 1
        go_wp2_with (go_at_call 11; refine stop ?_)
        refine Stop.mk ?_
        refine (seg_calls x y B0 m0 B1 m1 _ (Kd.C_below HC0.out HB2.out.B) (Kd.C_below HC1.out HB2.out.B)).mono ?_
        rintro e w1 ⟨rfl, hb⟩
        have HB3 := Aside0.mk (below_then (below_then HB.out HB.out.size HB2.out.B) (by have := HB.out.size; have := HB2.out.B.size; omega) hb)
        clear hb HB2 g00 g01 g10 g11 g20 g21 g30 g31 HC0 HC1 HS6
        by_cases he : x = y
        · have hde := decide_eq_true he
          rw [hde]
          have HE := Aside0.mk he
          clear he hde
          go_wp2
          go_roundg (gk - 1)
          case measure => omega
          case rel => exact ⟨k + 1, by omega, by go_num, ⟨take_step z31 HT.out (by have := HN.out; omega) (by have := HN1.out; omega) (by rw [← HX.out, ← HY.out]; exact HE.out)⟩, HB3⟩
        · have hde := decide_eq_false he
          rw [hde]
          have HNE := Aside0.mk (decide_eq_false (ne_at z31 (by rw [← HX.out, ← HY.out]; exact he) : l0 ≠ l1))
          clear he hde
          go_wp2
          go_ret
          exact ⟨by rw [HNE.out]; rfl, HB3.out⟩
      · have hkn : k = n := by omega
        have hlt2 : ¬ ((k : Int) < (n : Int)) := by omega
        have HT2 := Aside0.mk (decide_eq_true (by have := HT.out; rw [hkn, List.take_of_length_le (by have := HN.out; omega), List.take_of_length_le (by have := HN1.out; omega)] at this; exact this : l0 = l1))
        clear hkn
        go_wp2
        go_ret
        exact ⟨by rw [HT2.out]; rfl, HB.out⟩
  · have hl1 : ((l0.length : Int) != (l1.length : Int)) = true := by rw [bne_iff_ne]; omega
    have hl2 : ((l0.length : Int) == (l1.length : Int)) = false := by rw [beq_eq_false_iff_ne]; omega
    have hl3 : (l0.length == l1.length) = false := by simpa using hl
    have HNE := Aside0.mk (decide_eq_false (fun h => hl (by rw [h]) : l0 ≠ l1))
    clear hl
    go_enter Try.func10, Try.ntmps10
    go_wp2
    go_ret
    exact ⟨by rw [HNE.out]; rfl, Below.refl _ _⟩
set_option maxRecDepth 100000 in
set_option maxHeartbeats 4000000 in
theorem equal_calls (A0 : Option Addr) (n0 : List ByteArray) (a0 : Nat) (B0 : Option Addr) (c0 : List ByteArray) (b0 : Nat) (C0 : Option Addr) (p0 : List Int) (g0 : Nat) (h0 e0 s0 t0 : Int) (D0 : Option Addr) (d0 : List S31) (k0 : Nat)
    (A1 : Option Addr) (n1 : List ByteArray) (a1 : Nat) (B1 : Option Addr) (c1 : List ByteArray) (b1 : Nat) (C1 : Option Addr) (p1 : List Int) (g1 : Nat) (h1 e1 s1 t1 : Int) (D1 : Option Addr) (d1 : List S31) (k1 : Nat) (w : World)
    (rA0 : Kd.C Kd.string w A0 n0.length n0) (rB0 : Kd.C Kd.string w B0 c0.length c0) (rC0 : Kd.C (Kd.int .i64) w C0 p0.length p0) (rD0 : k31.C w D0 d0.length d0)
    (rA1 : Kd.C Kd.string w A1 n1.length n1) (rB1 : Kd.C Kd.string w B1 c1.length c1) (rC1 : Kd.C (Kd.int .i64) w C1 p1.length p1) (rD1 : k31.C w D1 d1.length d1) :
    Calls Try.prog 5 #[.agg #[.slice A0 n0.length a0, .slice B0 c0.length b0, .slice C0 p0.length g0, .int .i64 h0, .int .i64 e0, .int .i64 s0, .int .i64 t0, .slice D0 d0.length k0], .agg #[.slice A1 n1.length a1, .slice B1 c1.length b1, .slice C1 p1.length g1, .int .i64 h1, .int .i64 e1, .int .i64 s1, .int .i64 t1, .slice D1 d1.length k1]] w fun e w' => e = .returned (.bool (same n0 c0 p0 h0 e0 s0 t0 d0 n1 c1 p1 h1 e1 s1 t1 d1)) ∧ Below w.heap.size w w' := by
  have RA0 := Aside0.mk rA0
  have RA1 := Aside0.mk rA1
  have RB0 := Aside0.mk rB0
  have RB1 := Aside0.mk rB1
  have RC0 := Aside0.mk rC0
  have RC1 := Aside0.mk rC1
  have RD0 := Aside0.mk rD0
  have RD1 := Aside0.mk rD1
  clear rA0 rA1 rB0 rB1 rC0 rC1 rD0 rD1
  have HS := Aside0.mk (((St.start w).alloc #[.slice A0 n0.length a0, .slice B0 c0.length b0, .slice C0 p0.length g0, .int .i64 h0, .int .i64 e0, .int .i64 s0, .int .i64 t0, .slice D0 d0.length k0] 26).alloc #[.slice A1 n1.length a1, .slice B1 c1.length b1, .slice C1 p1.length g1, .int .i64 h1, .int .i64 e1, .int .i64 s1, .int .i64 t1, .slice D1 d1.length k1] 26)
  by_cases zh : h0 = h1
  · skip
    have yh1 : (h0 == h1) = true := by simp [zh]
    have yh2 : (h0 != h1) = false := by simp [zh]
    have Qh := Aside0.mk zh
    clear zh
    by_cases ze : e0 = e1
    · skip
      have ye1 : (e0 == e1) = true := by simp [ze]
      have ye2 : (e0 != e1) = false := by simp [ze]
      have Qe := Aside0.mk ze
      clear ze
      by_cases zs : s0 = s1
      · skip
        have ys1 : (s0 == s1) = true := by simp [zs]
        have ys2 : (s0 != s1) = false := by simp [zs]
        have Qs := Aside0.mk zs
        clear zs
        by_cases zt : t0 = t1
        · skip
          have yt1 : (t0 == t1) = true := by simp [zt]
          have yt2 : (t0 != t1) = false := by simp [zt]
          have Qt := Aside0.mk zt
          clear zt
          by_cases zn : n0 = n1
          · skip
            have Dn := Aside0.mk (decide_eq_true zn)
            have Qn := Aside0.mk zn
            clear zn
            by_cases zc : c0 = c1
            · skip
              have Dc := Aside0.mk (decide_eq_true zc)
              have Qc := Aside0.mk zc
              clear zc
              by_cases zp : p0 = p1
              · skip
                have Dp := Aside0.mk (decide_eq_true zp)
                have Qp := Aside0.mk zp
                clear zp
                go_enter Try.func5, Try.ntmps5
                go_upto_region 1 with (fail)
                obtain ⟨w2, hw2⟩ : ∃ w2, w2 = (w.alloc (.cells #[.slice A0 n0.length a0, .slice B0 c0.length b0, .slice C0 p0.length g0, .int .i64 h0, .int .i64 e0, .int .i64 s0, .int .i64 t0, .slice D0 d0.length k0] 26 (0, 0))).alloc (.cells #[.slice A1 n1.length a1, .slice B1 c1.length b1, .slice C1 p1.length g1, .int .i64 h1, .int .i64 e1, .int .i64 s1, .int .i64 t1, .slice D1 d1.length k1] 26 (0, 0)) := ⟨_, rfl⟩
                have HS2 : Aside0 (St w w2 [Box w.heap.size #[.slice A0 n0.length a0, .slice B0 c0.length b0, .slice C0 p0.length g0, .int .i64 h0, .int .i64 e0, .int .i64 s0, .int .i64 t0, .slice D0 d0.length k0] 26, Box (w.heap.size + 1) #[.slice A1 n1.length a1, .slice B1 c1.length b1, .slice C1 p1.length g1, .int .i64 h1, .int .i64 e1, .int .i64 s1, .int .i64 t1, .slice D1 d1.length k1] 26]) := by rw [hw2]; exact ⟨by simpa using HS.out⟩
                rw [← hw2]
                clear hw2 HS
                have q00 : w2.cell? ⟨w.heap.size, 0, none⟩ = some (.slice A0 n0.length a0) := HS2.out.cell 0 rfl 0
                have q01 : w2.cell? ⟨w.heap.size, 1, none⟩ = some (.slice B0 c0.length b0) := HS2.out.cell 0 rfl 1
                have q02 : w2.cell? ⟨w.heap.size, 2, none⟩ = some (.slice C0 p0.length g0) := HS2.out.cell 0 rfl 2
                have q03 : w2.cell? ⟨w.heap.size, 3, none⟩ = some (.int .i64 h0) := HS2.out.cell 0 rfl 3
                have q04 : w2.cell? ⟨w.heap.size, 4, none⟩ = some (.int .i64 e0) := HS2.out.cell 0 rfl 4
                have q05 : w2.cell? ⟨w.heap.size, 5, none⟩ = some (.int .i64 s0) := HS2.out.cell 0 rfl 5
                have q06 : w2.cell? ⟨w.heap.size, 6, none⟩ = some (.int .i64 t0) := HS2.out.cell 0 rfl 6
                have q07 : w2.cell? ⟨w.heap.size, 7, none⟩ = some (.slice D0 d0.length k0) := HS2.out.cell 0 rfl 7
                have q10 : w2.cell? ⟨w.heap.size + 1, 0, none⟩ = some (.slice A1 n1.length a1) := HS2.out.cell 1 rfl 0
                have q11 : w2.cell? ⟨w.heap.size + 1, 1, none⟩ = some (.slice B1 c1.length b1) := HS2.out.cell 1 rfl 1
                have q12 : w2.cell? ⟨w.heap.size + 1, 2, none⟩ = some (.slice C1 p1.length g1) := HS2.out.cell 1 rfl 2
                have q13 : w2.cell? ⟨w.heap.size + 1, 3, none⟩ = some (.int .i64 h1) := HS2.out.cell 1 rfl 3
                have q14 : w2.cell? ⟨w.heap.size + 1, 4, none⟩ = some (.int .i64 e1) := HS2.out.cell 1 rfl 4
                have q15 : w2.cell? ⟨w.heap.size + 1, 5, none⟩ = some (.int .i64 s1) := HS2.out.cell 1 rfl 5
                have q16 : w2.cell? ⟨w.heap.size + 1, 6, none⟩ = some (.int .i64 t1) := HS2.out.cell 1 rfl 6
                have q17 : w2.cell? ⟨w.heap.size + 1, 7, none⟩ = some (.slice D1 d1.length k1) := HS2.out.cell 1 rfl 7
                go_wp2_with (go_at_call 8; refine stop ?_)
                refine Stop.mk ?_
                refine (eqS_calls A0 a0 n0 A1 a1 n1 _ (Kd.C_below RA0.out HS2.out.B) (Kd.C_below RA1.out HS2.out.B)).mono ?_
                rintro e w3 ⟨rfl, hdr⟩
                have HS3 := Aside0.mk (HS2.out.drawn hdr)
                rw [Dn.out]
                clear hdr
                clear q00 q01 q02 q03 q04 q05 q06 q07 q10 q11 q12 q13 q14 q15 q16 q17
                clear HS2
                have q00 : w3.cell? ⟨w.heap.size, 0, none⟩ = some (.slice A0 n0.length a0) := HS3.out.cell 0 rfl 0
                have q01 : w3.cell? ⟨w.heap.size, 1, none⟩ = some (.slice B0 c0.length b0) := HS3.out.cell 0 rfl 1
                have q02 : w3.cell? ⟨w.heap.size, 2, none⟩ = some (.slice C0 p0.length g0) := HS3.out.cell 0 rfl 2
                have q03 : w3.cell? ⟨w.heap.size, 3, none⟩ = some (.int .i64 h0) := HS3.out.cell 0 rfl 3
                have q04 : w3.cell? ⟨w.heap.size, 4, none⟩ = some (.int .i64 e0) := HS3.out.cell 0 rfl 4
                have q05 : w3.cell? ⟨w.heap.size, 5, none⟩ = some (.int .i64 s0) := HS3.out.cell 0 rfl 5
                have q06 : w3.cell? ⟨w.heap.size, 6, none⟩ = some (.int .i64 t0) := HS3.out.cell 0 rfl 6
                have q07 : w3.cell? ⟨w.heap.size, 7, none⟩ = some (.slice D0 d0.length k0) := HS3.out.cell 0 rfl 7
                have q10 : w3.cell? ⟨w.heap.size + 1, 0, none⟩ = some (.slice A1 n1.length a1) := HS3.out.cell 1 rfl 0
                have q11 : w3.cell? ⟨w.heap.size + 1, 1, none⟩ = some (.slice B1 c1.length b1) := HS3.out.cell 1 rfl 1
                have q12 : w3.cell? ⟨w.heap.size + 1, 2, none⟩ = some (.slice C1 p1.length g1) := HS3.out.cell 1 rfl 2
                have q13 : w3.cell? ⟨w.heap.size + 1, 3, none⟩ = some (.int .i64 h1) := HS3.out.cell 1 rfl 3
                have q14 : w3.cell? ⟨w.heap.size + 1, 4, none⟩ = some (.int .i64 e1) := HS3.out.cell 1 rfl 4
                have q15 : w3.cell? ⟨w.heap.size + 1, 5, none⟩ = some (.int .i64 s1) := HS3.out.cell 1 rfl 5
                have q16 : w3.cell? ⟨w.heap.size + 1, 6, none⟩ = some (.int .i64 t1) := HS3.out.cell 1 rfl 6
                have q17 : w3.cell? ⟨w.heap.size + 1, 7, none⟩ = some (.slice D1 d1.length k1) := HS3.out.cell 1 rfl 7
                go_wp2_with (go_at_call 8; refine stop ?_)
                refine Stop.mk ?_
                refine (eqS_calls B0 b0 c0 B1 b1 c1 _ (Kd.C_below RB0.out HS3.out.B) (Kd.C_below RB1.out HS3.out.B)).mono ?_
                rintro e w4 ⟨rfl, hdr⟩
                have HS4 := Aside0.mk (HS3.out.drawn hdr)
                rw [Dc.out]
                clear hdr
                clear q00 q01 q02 q03 q04 q05 q06 q07 q10 q11 q12 q13 q14 q15 q16 q17
                clear HS3
                have q00 : w4.cell? ⟨w.heap.size, 0, none⟩ = some (.slice A0 n0.length a0) := HS4.out.cell 0 rfl 0
                have q01 : w4.cell? ⟨w.heap.size, 1, none⟩ = some (.slice B0 c0.length b0) := HS4.out.cell 0 rfl 1
                have q02 : w4.cell? ⟨w.heap.size, 2, none⟩ = some (.slice C0 p0.length g0) := HS4.out.cell 0 rfl 2
                have q03 : w4.cell? ⟨w.heap.size, 3, none⟩ = some (.int .i64 h0) := HS4.out.cell 0 rfl 3
                have q04 : w4.cell? ⟨w.heap.size, 4, none⟩ = some (.int .i64 e0) := HS4.out.cell 0 rfl 4
                have q05 : w4.cell? ⟨w.heap.size, 5, none⟩ = some (.int .i64 s0) := HS4.out.cell 0 rfl 5
                have q06 : w4.cell? ⟨w.heap.size, 6, none⟩ = some (.int .i64 t0) := HS4.out.cell 0 rfl 6
                have q07 : w4.cell? ⟨w.heap.size, 7, none⟩ = some (.slice D0 d0.length k0) := HS4.out.cell 0 rfl 7
                have q10 : w4.cell? ⟨w.heap.size + 1, 0, none⟩ = some (.slice A1 n1.length a1) := HS4.out.cell 1 rfl 0
                have q11 : w4.cell? ⟨w.heap.size + 1, 1, none⟩ = some (.slice B1 c1.length b1) := HS4.out.cell 1 rfl 1
                have q12 : w4.cell? ⟨w.heap.size + 1, 2, none⟩ = some (.slice C1 p1.length g1) := HS4.out.cell 1 rfl 2
                have q13 : w4.cell? ⟨w.heap.size + 1, 3, none⟩ = some (.int .i64 h1) := HS4.out.cell 1 rfl 3
                have q14 : w4.cell? ⟨w.heap.size + 1, 4, none⟩ = some (.int .i64 e1) := HS4.out.cell 1 rfl 4
                have q15 : w4.cell? ⟨w.heap.size + 1, 5, none⟩ = some (.int .i64 s1) := HS4.out.cell 1 rfl 5
                have q16 : w4.cell? ⟨w.heap.size + 1, 6, none⟩ = some (.int .i64 t1) := HS4.out.cell 1 rfl 6
                have q17 : w4.cell? ⟨w.heap.size + 1, 7, none⟩ = some (.slice D1 d1.length k1) := HS4.out.cell 1 rfl 7
                go_wp2_with (go_at_call 9; refine stop ?_)
                refine Stop.mk ?_
                refine (eqI_calls C0 g0 p0 C1 g1 p1 _ (Kd.C_below RC0.out HS4.out.B) (Kd.C_below RC1.out HS4.out.B)).mono ?_
                rintro e w5 ⟨rfl, hdr⟩
                have HS5 := Aside0.mk (HS4.out.drawn hdr)
                rw [Dp.out]
                clear hdr
                clear q00 q01 q02 q03 q04 q05 q06 q07 q10 q11 q12 q13 q14 q15 q16 q17
                clear HS4
                have q00 : w5.cell? ⟨w.heap.size, 0, none⟩ = some (.slice A0 n0.length a0) := HS5.out.cell 0 rfl 0
                have q01 : w5.cell? ⟨w.heap.size, 1, none⟩ = some (.slice B0 c0.length b0) := HS5.out.cell 0 rfl 1
                have q02 : w5.cell? ⟨w.heap.size, 2, none⟩ = some (.slice C0 p0.length g0) := HS5.out.cell 0 rfl 2
                have q03 : w5.cell? ⟨w.heap.size, 3, none⟩ = some (.int .i64 h0) := HS5.out.cell 0 rfl 3
                have q04 : w5.cell? ⟨w.heap.size, 4, none⟩ = some (.int .i64 e0) := HS5.out.cell 0 rfl 4
                have q05 : w5.cell? ⟨w.heap.size, 5, none⟩ = some (.int .i64 s0) := HS5.out.cell 0 rfl 5
                have q06 : w5.cell? ⟨w.heap.size, 6, none⟩ = some (.int .i64 t0) := HS5.out.cell 0 rfl 6
                have q07 : w5.cell? ⟨w.heap.size, 7, none⟩ = some (.slice D0 d0.length k0) := HS5.out.cell 0 rfl 7
                have q10 : w5.cell? ⟨w.heap.size + 1, 0, none⟩ = some (.slice A1 n1.length a1) := HS5.out.cell 1 rfl 0
                have q11 : w5.cell? ⟨w.heap.size + 1, 1, none⟩ = some (.slice B1 c1.length b1) := HS5.out.cell 1 rfl 1
                have q12 : w5.cell? ⟨w.heap.size + 1, 2, none⟩ = some (.slice C1 p1.length g1) := HS5.out.cell 1 rfl 2
                have q13 : w5.cell? ⟨w.heap.size + 1, 3, none⟩ = some (.int .i64 h1) := HS5.out.cell 1 rfl 3
                have q14 : w5.cell? ⟨w.heap.size + 1, 4, none⟩ = some (.int .i64 e1) := HS5.out.cell 1 rfl 4
                have q15 : w5.cell? ⟨w.heap.size + 1, 5, none⟩ = some (.int .i64 s1) := HS5.out.cell 1 rfl 5
                have q16 : w5.cell? ⟨w.heap.size + 1, 6, none⟩ = some (.int .i64 t1) := HS5.out.cell 1 rfl 6
                have q17 : w5.cell? ⟨w.heap.size + 1, 7, none⟩ = some (.slice D1 d1.length k1) := HS5.out.cell 1 rfl 7
                go_wp2_with (go_at_call 10; refine stop ?_)
                refine Stop.mk ?_
                refine (func_calls D0 k0 d0 D1 k1 d1 _ (Kd.C_below RD0.out HS5.out.B) (Kd.C_below RD1.out HS5.out.B)).mono ?_
                rintro e w9 ⟨rfl, hb⟩
                have HB9 := Aside0.mk (HS5.out.below hb).B
                clear hb
                clear q00 q01 q02 q03 q04 q05 q06 q07 q10 q11 q12 q13 q14 q15 q16 q17
                go_wp2
                go_ret
                exact ⟨by unfold same fin; rw [Dn.out, Dc.out, Dp.out, decide_eq_true Qh.out, decide_eq_true Qe.out, decide_eq_true Qs.out, decide_eq_true Qt.out]; simp, HB9.out⟩
              · skip
                have Dp := Aside0.mk (decide_eq_false zp)
                have Qp := Aside0.mk zp
                clear zp
                go_enter Try.func5, Try.ntmps5
                go_upto_region 1 with (fail)
                obtain ⟨w2, hw2⟩ : ∃ w2, w2 = (w.alloc (.cells #[.slice A0 n0.length a0, .slice B0 c0.length b0, .slice C0 p0.length g0, .int .i64 h0, .int .i64 e0, .int .i64 s0, .int .i64 t0, .slice D0 d0.length k0] 26 (0, 0))).alloc (.cells #[.slice A1 n1.length a1, .slice B1 c1.length b1, .slice C1 p1.length g1, .int .i64 h1, .int .i64 e1, .int .i64 s1, .int .i64 t1, .slice D1 d1.length k1] 26 (0, 0)) := ⟨_, rfl⟩
                have HS2 : Aside0 (St w w2 [Box w.heap.size #[.slice A0 n0.length a0, .slice B0 c0.length b0, .slice C0 p0.length g0, .int .i64 h0, .int .i64 e0, .int .i64 s0, .int .i64 t0, .slice D0 d0.length k0] 26, Box (w.heap.size + 1) #[.slice A1 n1.length a1, .slice B1 c1.length b1, .slice C1 p1.length g1, .int .i64 h1, .int .i64 e1, .int .i64 s1, .int .i64 t1, .slice D1 d1.length k1] 26]) := by rw [hw2]; exact ⟨by simpa using HS.out⟩
                rw [← hw2]
                clear hw2 HS
                have q00 : w2.cell? ⟨w.heap.size, 0, none⟩ = some (.slice A0 n0.length a0) := HS2.out.cell 0 rfl 0
                have q01 : w2.cell? ⟨w.heap.size, 1, none⟩ = some (.slice B0 c0.length b0) := HS2.out.cell 0 rfl 1
                have q02 : w2.cell? ⟨w.heap.size, 2, none⟩ = some (.slice C0 p0.length g0) := HS2.out.cell 0 rfl 2
                have q03 : w2.cell? ⟨w.heap.size, 3, none⟩ = some (.int .i64 h0) := HS2.out.cell 0 rfl 3
                have q04 : w2.cell? ⟨w.heap.size, 4, none⟩ = some (.int .i64 e0) := HS2.out.cell 0 rfl 4
                have q05 : w2.cell? ⟨w.heap.size, 5, none⟩ = some (.int .i64 s0) := HS2.out.cell 0 rfl 5
                have q06 : w2.cell? ⟨w.heap.size, 6, none⟩ = some (.int .i64 t0) := HS2.out.cell 0 rfl 6
                have q07 : w2.cell? ⟨w.heap.size, 7, none⟩ = some (.slice D0 d0.length k0) := HS2.out.cell 0 rfl 7
                have q10 : w2.cell? ⟨w.heap.size + 1, 0, none⟩ = some (.slice A1 n1.length a1) := HS2.out.cell 1 rfl 0
                have q11 : w2.cell? ⟨w.heap.size + 1, 1, none⟩ = some (.slice B1 c1.length b1) := HS2.out.cell 1 rfl 1
                have q12 : w2.cell? ⟨w.heap.size + 1, 2, none⟩ = some (.slice C1 p1.length g1) := HS2.out.cell 1 rfl 2
                have q13 : w2.cell? ⟨w.heap.size + 1, 3, none⟩ = some (.int .i64 h1) := HS2.out.cell 1 rfl 3
                have q14 : w2.cell? ⟨w.heap.size + 1, 4, none⟩ = some (.int .i64 e1) := HS2.out.cell 1 rfl 4
                have q15 : w2.cell? ⟨w.heap.size + 1, 5, none⟩ = some (.int .i64 s1) := HS2.out.cell 1 rfl 5
                have q16 : w2.cell? ⟨w.heap.size + 1, 6, none⟩ = some (.int .i64 t1) := HS2.out.cell 1 rfl 6
                have q17 : w2.cell? ⟨w.heap.size + 1, 7, none⟩ = some (.slice D1 d1.length k1) := HS2.out.cell 1 rfl 7
                go_wp2_with (go_at_call 8; refine stop ?_)
                refine Stop.mk ?_
                refine (eqS_calls A0 a0 n0 A1 a1 n1 _ (Kd.C_below RA0.out HS2.out.B) (Kd.C_below RA1.out HS2.out.B)).mono ?_
                rintro e w3 ⟨rfl, hdr⟩
                have HS3 := Aside0.mk (HS2.out.drawn hdr)
                rw [Dn.out]
                clear hdr
                clear q00 q01 q02 q03 q04 q05 q06 q07 q10 q11 q12 q13 q14 q15 q16 q17
                clear HS2
                have q00 : w3.cell? ⟨w.heap.size, 0, none⟩ = some (.slice A0 n0.length a0) := HS3.out.cell 0 rfl 0
                have q01 : w3.cell? ⟨w.heap.size, 1, none⟩ = some (.slice B0 c0.length b0) := HS3.out.cell 0 rfl 1
                have q02 : w3.cell? ⟨w.heap.size, 2, none⟩ = some (.slice C0 p0.length g0) := HS3.out.cell 0 rfl 2
                have q03 : w3.cell? ⟨w.heap.size, 3, none⟩ = some (.int .i64 h0) := HS3.out.cell 0 rfl 3
                have q04 : w3.cell? ⟨w.heap.size, 4, none⟩ = some (.int .i64 e0) := HS3.out.cell 0 rfl 4
                have q05 : w3.cell? ⟨w.heap.size, 5, none⟩ = some (.int .i64 s0) := HS3.out.cell 0 rfl 5
                have q06 : w3.cell? ⟨w.heap.size, 6, none⟩ = some (.int .i64 t0) := HS3.out.cell 0 rfl 6
                have q07 : w3.cell? ⟨w.heap.size, 7, none⟩ = some (.slice D0 d0.length k0) := HS3.out.cell 0 rfl 7
                have q10 : w3.cell? ⟨w.heap.size + 1, 0, none⟩ = some (.slice A1 n1.length a1) := HS3.out.cell 1 rfl 0
                have q11 : w3.cell? ⟨w.heap.size + 1, 1, none⟩ = some (.slice B1 c1.length b1) := HS3.out.cell 1 rfl 1
                have q12 : w3.cell? ⟨w.heap.size + 1, 2, none⟩ = some (.slice C1 p1.length g1) := HS3.out.cell 1 rfl 2
                have q13 : w3.cell? ⟨w.heap.size + 1, 3, none⟩ = some (.int .i64 h1) := HS3.out.cell 1 rfl 3
                have q14 : w3.cell? ⟨w.heap.size + 1, 4, none⟩ = some (.int .i64 e1) := HS3.out.cell 1 rfl 4
                have q15 : w3.cell? ⟨w.heap.size + 1, 5, none⟩ = some (.int .i64 s1) := HS3.out.cell 1 rfl 5
                have q16 : w3.cell? ⟨w.heap.size + 1, 6, none⟩ = some (.int .i64 t1) := HS3.out.cell 1 rfl 6
                have q17 : w3.cell? ⟨w.heap.size + 1, 7, none⟩ = some (.slice D1 d1.length k1) := HS3.out.cell 1 rfl 7
                go_wp2_with (go_at_call 8; refine stop ?_)
                refine Stop.mk ?_
                refine (eqS_calls B0 b0 c0 B1 b1 c1 _ (Kd.C_below RB0.out HS3.out.B) (Kd.C_below RB1.out HS3.out.B)).mono ?_
                rintro e w4 ⟨rfl, hdr⟩
                have HS4 := Aside0.mk (HS3.out.drawn hdr)
                rw [Dc.out]
                clear hdr
                clear q00 q01 q02 q03 q04 q05 q06 q07 q10 q11 q12 q13 q14 q15 q16 q17
                clear HS3
                have q00 : w4.cell? ⟨w.heap.size, 0, none⟩ = some (.slice A0 n0.length a0) := HS4.out.cell 0 rfl 0
                have q01 : w4.cell? ⟨w.heap.size, 1, none⟩ = some (.slice B0 c0.length b0) := HS4.out.cell 0 rfl 1
                have q02 : w4.cell? ⟨w.heap.size, 2, none⟩ = some (.slice C0 p0.length g0) := HS4.out.cell 0 rfl 2
                have q03 : w4.cell? ⟨w.heap.size, 3, none⟩ = some (.int .i64 h0) := HS4.out.cell 0 rfl 3
                have q04 : w4.cell? ⟨w.heap.size, 4, none⟩ = some (.int .i64 e0) := HS4.out.cell 0 rfl 4
                have q05 : w4.cell? ⟨w.heap.size, 5, none⟩ = some (.int .i64 s0) := HS4.out.cell 0 rfl 5
                have q06 : w4.cell? ⟨w.heap.size, 6, none⟩ = some (.int .i64 t0) := HS4.out.cell 0 rfl 6
                have q07 : w4.cell? ⟨w.heap.size, 7, none⟩ = some (.slice D0 d0.length k0) := HS4.out.cell 0 rfl 7
                have q10 : w4.cell? ⟨w.heap.size + 1, 0, none⟩ = some (.slice A1 n1.length a1) := HS4.out.cell 1 rfl 0
                have q11 : w4.cell? ⟨w.heap.size + 1, 1, none⟩ = some (.slice B1 c1.length b1) := HS4.out.cell 1 rfl 1
                have q12 : w4.cell? ⟨w.heap.size + 1, 2, none⟩ = some (.slice C1 p1.length g1) := HS4.out.cell 1 rfl 2
                have q13 : w4.cell? ⟨w.heap.size + 1, 3, none⟩ = some (.int .i64 h1) := HS4.out.cell 1 rfl 3
                have q14 : w4.cell? ⟨w.heap.size + 1, 4, none⟩ = some (.int .i64 e1) := HS4.out.cell 1 rfl 4
                have q15 : w4.cell? ⟨w.heap.size + 1, 5, none⟩ = some (.int .i64 s1) := HS4.out.cell 1 rfl 5
                have q16 : w4.cell? ⟨w.heap.size + 1, 6, none⟩ = some (.int .i64 t1) := HS4.out.cell 1 rfl 6
                have q17 : w4.cell? ⟨w.heap.size + 1, 7, none⟩ = some (.slice D1 d1.length k1) := HS4.out.cell 1 rfl 7
                go_wp2_with (go_at_call 9; refine stop ?_)
                refine Stop.mk ?_
                refine (eqI_calls C0 g0 p0 C1 g1 p1 _ (Kd.C_below RC0.out HS4.out.B) (Kd.C_below RC1.out HS4.out.B)).mono ?_
                rintro e w5 ⟨rfl, hdr⟩
                have HS5 := Aside0.mk (HS4.out.drawn hdr)
                rw [Dp.out]
                clear hdr
                clear q00 q01 q02 q03 q04 q05 q06 q07 q10 q11 q12 q13 q14 q15 q16 q17
                clear HS4
                have q00 : w5.cell? ⟨w.heap.size, 0, none⟩ = some (.slice A0 n0.length a0) := HS5.out.cell 0 rfl 0
                have q01 : w5.cell? ⟨w.heap.size, 1, none⟩ = some (.slice B0 c0.length b0) := HS5.out.cell 0 rfl 1
                have q02 : w5.cell? ⟨w.heap.size, 2, none⟩ = some (.slice C0 p0.length g0) := HS5.out.cell 0 rfl 2
                have q03 : w5.cell? ⟨w.heap.size, 3, none⟩ = some (.int .i64 h0) := HS5.out.cell 0 rfl 3
                have q04 : w5.cell? ⟨w.heap.size, 4, none⟩ = some (.int .i64 e0) := HS5.out.cell 0 rfl 4
                have q05 : w5.cell? ⟨w.heap.size, 5, none⟩ = some (.int .i64 s0) := HS5.out.cell 0 rfl 5
                have q06 : w5.cell? ⟨w.heap.size, 6, none⟩ = some (.int .i64 t0) := HS5.out.cell 0 rfl 6
                have q07 : w5.cell? ⟨w.heap.size, 7, none⟩ = some (.slice D0 d0.length k0) := HS5.out.cell 0 rfl 7
                have q10 : w5.cell? ⟨w.heap.size + 1, 0, none⟩ = some (.slice A1 n1.length a1) := HS5.out.cell 1 rfl 0
                have q11 : w5.cell? ⟨w.heap.size + 1, 1, none⟩ = some (.slice B1 c1.length b1) := HS5.out.cell 1 rfl 1
                have q12 : w5.cell? ⟨w.heap.size + 1, 2, none⟩ = some (.slice C1 p1.length g1) := HS5.out.cell 1 rfl 2
                have q13 : w5.cell? ⟨w.heap.size + 1, 3, none⟩ = some (.int .i64 h1) := HS5.out.cell 1 rfl 3
                have q14 : w5.cell? ⟨w.heap.size + 1, 4, none⟩ = some (.int .i64 e1) := HS5.out.cell 1 rfl 4
                have q15 : w5.cell? ⟨w.heap.size + 1, 5, none⟩ = some (.int .i64 s1) := HS5.out.cell 1 rfl 5
                have q16 : w5.cell? ⟨w.heap.size + 1, 6, none⟩ = some (.int .i64 t1) := HS5.out.cell 1 rfl 6
                have q17 : w5.cell? ⟨w.heap.size + 1, 7, none⟩ = some (.slice D1 d1.length k1) := HS5.out.cell 1 rfl 7
                go_wp2
                go_ret
                exact ⟨by unfold same fin; rw [Dp.out]; simp, HS5.out.B⟩
            · skip
              have Dc := Aside0.mk (decide_eq_false zc)
              have Qc := Aside0.mk zc
              clear zc
              go_enter Try.func5, Try.ntmps5
              go_upto_region 1 with (fail)
              obtain ⟨w2, hw2⟩ : ∃ w2, w2 = (w.alloc (.cells #[.slice A0 n0.length a0, .slice B0 c0.length b0, .slice C0 p0.length g0, .int .i64 h0, .int .i64 e0, .int .i64 s0, .int .i64 t0, .slice D0 d0.length k0] 26 (0, 0))).alloc (.cells #[.slice A1 n1.length a1, .slice B1 c1.length b1, .slice C1 p1.length g1, .int .i64 h1, .int .i64 e1, .int .i64 s1, .int .i64 t1, .slice D1 d1.length k1] 26 (0, 0)) := ⟨_, rfl⟩
              have HS2 : Aside0 (St w w2 [Box w.heap.size #[.slice A0 n0.length a0, .slice B0 c0.length b0, .slice C0 p0.length g0, .int .i64 h0, .int .i64 e0, .int .i64 s0, .int .i64 t0, .slice D0 d0.length k0] 26, Box (w.heap.size + 1) #[.slice A1 n1.length a1, .slice B1 c1.length b1, .slice C1 p1.length g1, .int .i64 h1, .int .i64 e1, .int .i64 s1, .int .i64 t1, .slice D1 d1.length k1] 26]) := by rw [hw2]; exact ⟨by simpa using HS.out⟩
              rw [← hw2]
              clear hw2 HS
              have q00 : w2.cell? ⟨w.heap.size, 0, none⟩ = some (.slice A0 n0.length a0) := HS2.out.cell 0 rfl 0
              have q01 : w2.cell? ⟨w.heap.size, 1, none⟩ = some (.slice B0 c0.length b0) := HS2.out.cell 0 rfl 1
              have q02 : w2.cell? ⟨w.heap.size, 2, none⟩ = some (.slice C0 p0.length g0) := HS2.out.cell 0 rfl 2
              have q03 : w2.cell? ⟨w.heap.size, 3, none⟩ = some (.int .i64 h0) := HS2.out.cell 0 rfl 3
              have q04 : w2.cell? ⟨w.heap.size, 4, none⟩ = some (.int .i64 e0) := HS2.out.cell 0 rfl 4
              have q05 : w2.cell? ⟨w.heap.size, 5, none⟩ = some (.int .i64 s0) := HS2.out.cell 0 rfl 5
              have q06 : w2.cell? ⟨w.heap.size, 6, none⟩ = some (.int .i64 t0) := HS2.out.cell 0 rfl 6
              have q07 : w2.cell? ⟨w.heap.size, 7, none⟩ = some (.slice D0 d0.length k0) := HS2.out.cell 0 rfl 7
              have q10 : w2.cell? ⟨w.heap.size + 1, 0, none⟩ = some (.slice A1 n1.length a1) := HS2.out.cell 1 rfl 0
              have q11 : w2.cell? ⟨w.heap.size + 1, 1, none⟩ = some (.slice B1 c1.length b1) := HS2.out.cell 1 rfl 1
              have q12 : w2.cell? ⟨w.heap.size + 1, 2, none⟩ = some (.slice C1 p1.length g1) := HS2.out.cell 1 rfl 2
              have q13 : w2.cell? ⟨w.heap.size + 1, 3, none⟩ = some (.int .i64 h1) := HS2.out.cell 1 rfl 3
              have q14 : w2.cell? ⟨w.heap.size + 1, 4, none⟩ = some (.int .i64 e1) := HS2.out.cell 1 rfl 4
              have q15 : w2.cell? ⟨w.heap.size + 1, 5, none⟩ = some (.int .i64 s1) := HS2.out.cell 1 rfl 5
              have q16 : w2.cell? ⟨w.heap.size + 1, 6, none⟩ = some (.int .i64 t1) := HS2.out.cell 1 rfl 6
              have q17 : w2.cell? ⟨w.heap.size + 1, 7, none⟩ = some (.slice D1 d1.length k1) := HS2.out.cell 1 rfl 7
              go_wp2_with (go_at_call 8; refine stop ?_)
              refine Stop.mk ?_
              refine (eqS_calls A0 a0 n0 A1 a1 n1 _ (Kd.C_below RA0.out HS2.out.B) (Kd.C_below RA1.out HS2.out.B)).mono ?_
              rintro e w3 ⟨rfl, hdr⟩
              have HS3 := Aside0.mk (HS2.out.drawn hdr)
              rw [Dn.out]
              clear hdr
              clear q00 q01 q02 q03 q04 q05 q06 q07 q10 q11 q12 q13 q14 q15 q16 q17
              clear HS2
              have q00 : w3.cell? ⟨w.heap.size, 0, none⟩ = some (.slice A0 n0.length a0) := HS3.out.cell 0 rfl 0
              have q01 : w3.cell? ⟨w.heap.size, 1, none⟩ = some (.slice B0 c0.length b0) := HS3.out.cell 0 rfl 1
              have q02 : w3.cell? ⟨w.heap.size, 2, none⟩ = some (.slice C0 p0.length g0) := HS3.out.cell 0 rfl 2
              have q03 : w3.cell? ⟨w.heap.size, 3, none⟩ = some (.int .i64 h0) := HS3.out.cell 0 rfl 3
              have q04 : w3.cell? ⟨w.heap.size, 4, none⟩ = some (.int .i64 e0) := HS3.out.cell 0 rfl 4
              have q05 : w3.cell? ⟨w.heap.size, 5, none⟩ = some (.int .i64 s0) := HS3.out.cell 0 rfl 5
              have q06 : w3.cell? ⟨w.heap.size, 6, none⟩ = some (.int .i64 t0) := HS3.out.cell 0 rfl 6
              have q07 : w3.cell? ⟨w.heap.size, 7, none⟩ = some (.slice D0 d0.length k0) := HS3.out.cell 0 rfl 7
              have q10 : w3.cell? ⟨w.heap.size + 1, 0, none⟩ = some (.slice A1 n1.length a1) := HS3.out.cell 1 rfl 0
              have q11 : w3.cell? ⟨w.heap.size + 1, 1, none⟩ = some (.slice B1 c1.length b1) := HS3.out.cell 1 rfl 1
              have q12 : w3.cell? ⟨w.heap.size + 1, 2, none⟩ = some (.slice C1 p1.length g1) := HS3.out.cell 1 rfl 2
              have q13 : w3.cell? ⟨w.heap.size + 1, 3, none⟩ = some (.int .i64 h1) := HS3.out.cell 1 rfl 3
              have q14 : w3.cell? ⟨w.heap.size + 1, 4, none⟩ = some (.int .i64 e1) := HS3.out.cell 1 rfl 4
              have q15 : w3.cell? ⟨w.heap.size + 1, 5, none⟩ = some (.int .i64 s1) := HS3.out.cell 1 rfl 5
              have q16 : w3.cell? ⟨w.heap.size + 1, 6, none⟩ = some (.int .i64 t1) := HS3.out.cell 1 rfl 6
              have q17 : w3.cell? ⟨w.heap.size + 1, 7, none⟩ = some (.slice D1 d1.length k1) := HS3.out.cell 1 rfl 7
              go_wp2_with (go_at_call 8; refine stop ?_)
              refine Stop.mk ?_
              refine (eqS_calls B0 b0 c0 B1 b1 c1 _ (Kd.C_below RB0.out HS3.out.B) (Kd.C_below RB1.out HS3.out.B)).mono ?_
              rintro e w4 ⟨rfl, hdr⟩
              have HS4 := Aside0.mk (HS3.out.drawn hdr)
              rw [Dc.out]
              clear hdr
              clear q00 q01 q02 q03 q04 q05 q06 q07 q10 q11 q12 q13 q14 q15 q16 q17
              clear HS3
              have q00 : w4.cell? ⟨w.heap.size, 0, none⟩ = some (.slice A0 n0.length a0) := HS4.out.cell 0 rfl 0
              have q01 : w4.cell? ⟨w.heap.size, 1, none⟩ = some (.slice B0 c0.length b0) := HS4.out.cell 0 rfl 1
              have q02 : w4.cell? ⟨w.heap.size, 2, none⟩ = some (.slice C0 p0.length g0) := HS4.out.cell 0 rfl 2
              have q03 : w4.cell? ⟨w.heap.size, 3, none⟩ = some (.int .i64 h0) := HS4.out.cell 0 rfl 3
              have q04 : w4.cell? ⟨w.heap.size, 4, none⟩ = some (.int .i64 e0) := HS4.out.cell 0 rfl 4
              have q05 : w4.cell? ⟨w.heap.size, 5, none⟩ = some (.int .i64 s0) := HS4.out.cell 0 rfl 5
              have q06 : w4.cell? ⟨w.heap.size, 6, none⟩ = some (.int .i64 t0) := HS4.out.cell 0 rfl 6
              have q07 : w4.cell? ⟨w.heap.size, 7, none⟩ = some (.slice D0 d0.length k0) := HS4.out.cell 0 rfl 7
              have q10 : w4.cell? ⟨w.heap.size + 1, 0, none⟩ = some (.slice A1 n1.length a1) := HS4.out.cell 1 rfl 0
              have q11 : w4.cell? ⟨w.heap.size + 1, 1, none⟩ = some (.slice B1 c1.length b1) := HS4.out.cell 1 rfl 1
              have q12 : w4.cell? ⟨w.heap.size + 1, 2, none⟩ = some (.slice C1 p1.length g1) := HS4.out.cell 1 rfl 2
              have q13 : w4.cell? ⟨w.heap.size + 1, 3, none⟩ = some (.int .i64 h1) := HS4.out.cell 1 rfl 3
              have q14 : w4.cell? ⟨w.heap.size + 1, 4, none⟩ = some (.int .i64 e1) := HS4.out.cell 1 rfl 4
              have q15 : w4.cell? ⟨w.heap.size + 1, 5, none⟩ = some (.int .i64 s1) := HS4.out.cell 1 rfl 5
              have q16 : w4.cell? ⟨w.heap.size + 1, 6, none⟩ = some (.int .i64 t1) := HS4.out.cell 1 rfl 6
              have q17 : w4.cell? ⟨w.heap.size + 1, 7, none⟩ = some (.slice D1 d1.length k1) := HS4.out.cell 1 rfl 7
              go_wp2
              go_ret
              exact ⟨by unfold same fin; rw [Dc.out]; simp, HS4.out.B⟩
          · skip
            have Dn := Aside0.mk (decide_eq_false zn)
            have Qn := Aside0.mk zn
            clear zn
            go_enter Try.func5, Try.ntmps5
            go_upto_region 1 with (fail)
            obtain ⟨w2, hw2⟩ : ∃ w2, w2 = (w.alloc (.cells #[.slice A0 n0.length a0, .slice B0 c0.length b0, .slice C0 p0.length g0, .int .i64 h0, .int .i64 e0, .int .i64 s0, .int .i64 t0, .slice D0 d0.length k0] 26 (0, 0))).alloc (.cells #[.slice A1 n1.length a1, .slice B1 c1.length b1, .slice C1 p1.length g1, .int .i64 h1, .int .i64 e1, .int .i64 s1, .int .i64 t1, .slice D1 d1.length k1] 26 (0, 0)) := ⟨_, rfl⟩
            have HS2 : Aside0 (St w w2 [Box w.heap.size #[.slice A0 n0.length a0, .slice B0 c0.length b0, .slice C0 p0.length g0, .int .i64 h0, .int .i64 e0, .int .i64 s0, .int .i64 t0, .slice D0 d0.length k0] 26, Box (w.heap.size + 1) #[.slice A1 n1.length a1, .slice B1 c1.length b1, .slice C1 p1.length g1, .int .i64 h1, .int .i64 e1, .int .i64 s1, .int .i64 t1, .slice D1 d1.length k1] 26]) := by rw [hw2]; exact ⟨by simpa using HS.out⟩
            rw [← hw2]
            clear hw2 HS
            have q00 : w2.cell? ⟨w.heap.size, 0, none⟩ = some (.slice A0 n0.length a0) := HS2.out.cell 0 rfl 0
            have q01 : w2.cell? ⟨w.heap.size, 1, none⟩ = some (.slice B0 c0.length b0) := HS2.out.cell 0 rfl 1
            have q02 : w2.cell? ⟨w.heap.size, 2, none⟩ = some (.slice C0 p0.length g0) := HS2.out.cell 0 rfl 2
            have q03 : w2.cell? ⟨w.heap.size, 3, none⟩ = some (.int .i64 h0) := HS2.out.cell 0 rfl 3
            have q04 : w2.cell? ⟨w.heap.size, 4, none⟩ = some (.int .i64 e0) := HS2.out.cell 0 rfl 4
            have q05 : w2.cell? ⟨w.heap.size, 5, none⟩ = some (.int .i64 s0) := HS2.out.cell 0 rfl 5
            have q06 : w2.cell? ⟨w.heap.size, 6, none⟩ = some (.int .i64 t0) := HS2.out.cell 0 rfl 6
            have q07 : w2.cell? ⟨w.heap.size, 7, none⟩ = some (.slice D0 d0.length k0) := HS2.out.cell 0 rfl 7
            have q10 : w2.cell? ⟨w.heap.size + 1, 0, none⟩ = some (.slice A1 n1.length a1) := HS2.out.cell 1 rfl 0
            have q11 : w2.cell? ⟨w.heap.size + 1, 1, none⟩ = some (.slice B1 c1.length b1) := HS2.out.cell 1 rfl 1
            have q12 : w2.cell? ⟨w.heap.size + 1, 2, none⟩ = some (.slice C1 p1.length g1) := HS2.out.cell 1 rfl 2
            have q13 : w2.cell? ⟨w.heap.size + 1, 3, none⟩ = some (.int .i64 h1) := HS2.out.cell 1 rfl 3
            have q14 : w2.cell? ⟨w.heap.size + 1, 4, none⟩ = some (.int .i64 e1) := HS2.out.cell 1 rfl 4
            have q15 : w2.cell? ⟨w.heap.size + 1, 5, none⟩ = some (.int .i64 s1) := HS2.out.cell 1 rfl 5
            have q16 : w2.cell? ⟨w.heap.size + 1, 6, none⟩ = some (.int .i64 t1) := HS2.out.cell 1 rfl 6
            have q17 : w2.cell? ⟨w.heap.size + 1, 7, none⟩ = some (.slice D1 d1.length k1) := HS2.out.cell 1 rfl 7
            go_wp2_with (go_at_call 8; refine stop ?_)
            refine Stop.mk ?_
            refine (eqS_calls A0 a0 n0 A1 a1 n1 _ (Kd.C_below RA0.out HS2.out.B) (Kd.C_below RA1.out HS2.out.B)).mono ?_
            rintro e w3 ⟨rfl, hdr⟩
            have HS3 := Aside0.mk (HS2.out.drawn hdr)
            rw [Dn.out]
            clear hdr
            clear q00 q01 q02 q03 q04 q05 q06 q07 q10 q11 q12 q13 q14 q15 q16 q17
            clear HS2
            have q00 : w3.cell? ⟨w.heap.size, 0, none⟩ = some (.slice A0 n0.length a0) := HS3.out.cell 0 rfl 0
            have q01 : w3.cell? ⟨w.heap.size, 1, none⟩ = some (.slice B0 c0.length b0) := HS3.out.cell 0 rfl 1
            have q02 : w3.cell? ⟨w.heap.size, 2, none⟩ = some (.slice C0 p0.length g0) := HS3.out.cell 0 rfl 2
            have q03 : w3.cell? ⟨w.heap.size, 3, none⟩ = some (.int .i64 h0) := HS3.out.cell 0 rfl 3
            have q04 : w3.cell? ⟨w.heap.size, 4, none⟩ = some (.int .i64 e0) := HS3.out.cell 0 rfl 4
            have q05 : w3.cell? ⟨w.heap.size, 5, none⟩ = some (.int .i64 s0) := HS3.out.cell 0 rfl 5
            have q06 : w3.cell? ⟨w.heap.size, 6, none⟩ = some (.int .i64 t0) := HS3.out.cell 0 rfl 6
            have q07 : w3.cell? ⟨w.heap.size, 7, none⟩ = some (.slice D0 d0.length k0) := HS3.out.cell 0 rfl 7
            have q10 : w3.cell? ⟨w.heap.size + 1, 0, none⟩ = some (.slice A1 n1.length a1) := HS3.out.cell 1 rfl 0
            have q11 : w3.cell? ⟨w.heap.size + 1, 1, none⟩ = some (.slice B1 c1.length b1) := HS3.out.cell 1 rfl 1
            have q12 : w3.cell? ⟨w.heap.size + 1, 2, none⟩ = some (.slice C1 p1.length g1) := HS3.out.cell 1 rfl 2
            have q13 : w3.cell? ⟨w.heap.size + 1, 3, none⟩ = some (.int .i64 h1) := HS3.out.cell 1 rfl 3
            have q14 : w3.cell? ⟨w.heap.size + 1, 4, none⟩ = some (.int .i64 e1) := HS3.out.cell 1 rfl 4
            have q15 : w3.cell? ⟨w.heap.size + 1, 5, none⟩ = some (.int .i64 s1) := HS3.out.cell 1 rfl 5
            have q16 : w3.cell? ⟨w.heap.size + 1, 6, none⟩ = some (.int .i64 t1) := HS3.out.cell 1 rfl 6
            have q17 : w3.cell? ⟨w.heap.size + 1, 7, none⟩ = some (.slice D1 d1.length k1) := HS3.out.cell 1 rfl 7
            go_wp2
            go_ret
            exact ⟨by unfold same fin; rw [Dn.out]; simp, HS3.out.B⟩
        · skip
          have yt1 : (t0 == t1) = false := by simp [zt]
          have yt2 : (t0 != t1) = true := by simp [zt]
          have Qt := Aside0.mk zt
          clear zt
          go_enter Try.func5, Try.ntmps5
          go_upto_region 1 with (fail)
          obtain ⟨w2, hw2⟩ : ∃ w2, w2 = (w.alloc (.cells #[.slice A0 n0.length a0, .slice B0 c0.length b0, .slice C0 p0.length g0, .int .i64 h0, .int .i64 e0, .int .i64 s0, .int .i64 t0, .slice D0 d0.length k0] 26 (0, 0))).alloc (.cells #[.slice A1 n1.length a1, .slice B1 c1.length b1, .slice C1 p1.length g1, .int .i64 h1, .int .i64 e1, .int .i64 s1, .int .i64 t1, .slice D1 d1.length k1] 26 (0, 0)) := ⟨_, rfl⟩
          have HS2 : Aside0 (St w w2 [Box w.heap.size #[.slice A0 n0.length a0, .slice B0 c0.length b0, .slice C0 p0.length g0, .int .i64 h0, .int .i64 e0, .int .i64 s0, .int .i64 t0, .slice D0 d0.length k0] 26, Box (w.heap.size + 1) #[.slice A1 n1.length a1, .slice B1 c1.length b1, .slice C1 p1.length g1, .int .i64 h1, .int .i64 e1, .int .i64 s1, .int .i64 t1, .slice D1 d1.length k1] 26]) := by rw [hw2]; exact ⟨by simpa using HS.out⟩
          rw [← hw2]
          clear hw2 HS
          have q00 : w2.cell? ⟨w.heap.size, 0, none⟩ = some (.slice A0 n0.length a0) := HS2.out.cell 0 rfl 0
          have q01 : w2.cell? ⟨w.heap.size, 1, none⟩ = some (.slice B0 c0.length b0) := HS2.out.cell 0 rfl 1
          have q02 : w2.cell? ⟨w.heap.size, 2, none⟩ = some (.slice C0 p0.length g0) := HS2.out.cell 0 rfl 2
          have q03 : w2.cell? ⟨w.heap.size, 3, none⟩ = some (.int .i64 h0) := HS2.out.cell 0 rfl 3
          have q04 : w2.cell? ⟨w.heap.size, 4, none⟩ = some (.int .i64 e0) := HS2.out.cell 0 rfl 4
          have q05 : w2.cell? ⟨w.heap.size, 5, none⟩ = some (.int .i64 s0) := HS2.out.cell 0 rfl 5
          have q06 : w2.cell? ⟨w.heap.size, 6, none⟩ = some (.int .i64 t0) := HS2.out.cell 0 rfl 6
          have q07 : w2.cell? ⟨w.heap.size, 7, none⟩ = some (.slice D0 d0.length k0) := HS2.out.cell 0 rfl 7
          have q10 : w2.cell? ⟨w.heap.size + 1, 0, none⟩ = some (.slice A1 n1.length a1) := HS2.out.cell 1 rfl 0
          have q11 : w2.cell? ⟨w.heap.size + 1, 1, none⟩ = some (.slice B1 c1.length b1) := HS2.out.cell 1 rfl 1
          have q12 : w2.cell? ⟨w.heap.size + 1, 2, none⟩ = some (.slice C1 p1.length g1) := HS2.out.cell 1 rfl 2
          have q13 : w2.cell? ⟨w.heap.size + 1, 3, none⟩ = some (.int .i64 h1) := HS2.out.cell 1 rfl 3
          have q14 : w2.cell? ⟨w.heap.size + 1, 4, none⟩ = some (.int .i64 e1) := HS2.out.cell 1 rfl 4
          have q15 : w2.cell? ⟨w.heap.size + 1, 5, none⟩ = some (.int .i64 s1) := HS2.out.cell 1 rfl 5
          have q16 : w2.cell? ⟨w.heap.size + 1, 6, none⟩ = some (.int .i64 t1) := HS2.out.cell 1 rfl 6
          have q17 : w2.cell? ⟨w.heap.size + 1, 7, none⟩ = some (.slice D1 d1.length k1) := HS2.out.cell 1 rfl 7
          go_wp2
          go_ret
          exact ⟨by unfold same fin; rw [decide_eq_false Qt.out]; simp, HS2.out.B⟩
      · skip
        have ys1 : (s0 == s1) = false := by simp [zs]
        have ys2 : (s0 != s1) = true := by simp [zs]
        have Qs := Aside0.mk zs
        clear zs
        go_enter Try.func5, Try.ntmps5
        go_upto_region 1 with (fail)
        obtain ⟨w2, hw2⟩ : ∃ w2, w2 = (w.alloc (.cells #[.slice A0 n0.length a0, .slice B0 c0.length b0, .slice C0 p0.length g0, .int .i64 h0, .int .i64 e0, .int .i64 s0, .int .i64 t0, .slice D0 d0.length k0] 26 (0, 0))).alloc (.cells #[.slice A1 n1.length a1, .slice B1 c1.length b1, .slice C1 p1.length g1, .int .i64 h1, .int .i64 e1, .int .i64 s1, .int .i64 t1, .slice D1 d1.length k1] 26 (0, 0)) := ⟨_, rfl⟩
        have HS2 : Aside0 (St w w2 [Box w.heap.size #[.slice A0 n0.length a0, .slice B0 c0.length b0, .slice C0 p0.length g0, .int .i64 h0, .int .i64 e0, .int .i64 s0, .int .i64 t0, .slice D0 d0.length k0] 26, Box (w.heap.size + 1) #[.slice A1 n1.length a1, .slice B1 c1.length b1, .slice C1 p1.length g1, .int .i64 h1, .int .i64 e1, .int .i64 s1, .int .i64 t1, .slice D1 d1.length k1] 26]) := by rw [hw2]; exact ⟨by simpa using HS.out⟩
        rw [← hw2]
        clear hw2 HS
        have q00 : w2.cell? ⟨w.heap.size, 0, none⟩ = some (.slice A0 n0.length a0) := HS2.out.cell 0 rfl 0
        have q01 : w2.cell? ⟨w.heap.size, 1, none⟩ = some (.slice B0 c0.length b0) := HS2.out.cell 0 rfl 1
        have q02 : w2.cell? ⟨w.heap.size, 2, none⟩ = some (.slice C0 p0.length g0) := HS2.out.cell 0 rfl 2
        have q03 : w2.cell? ⟨w.heap.size, 3, none⟩ = some (.int .i64 h0) := HS2.out.cell 0 rfl 3
        have q04 : w2.cell? ⟨w.heap.size, 4, none⟩ = some (.int .i64 e0) := HS2.out.cell 0 rfl 4
        have q05 : w2.cell? ⟨w.heap.size, 5, none⟩ = some (.int .i64 s0) := HS2.out.cell 0 rfl 5
        have q06 : w2.cell? ⟨w.heap.size, 6, none⟩ = some (.int .i64 t0) := HS2.out.cell 0 rfl 6
        have q07 : w2.cell? ⟨w.heap.size, 7, none⟩ = some (.slice D0 d0.length k0) := HS2.out.cell 0 rfl 7
        have q10 : w2.cell? ⟨w.heap.size + 1, 0, none⟩ = some (.slice A1 n1.length a1) := HS2.out.cell 1 rfl 0
        have q11 : w2.cell? ⟨w.heap.size + 1, 1, none⟩ = some (.slice B1 c1.length b1) := HS2.out.cell 1 rfl 1
        have q12 : w2.cell? ⟨w.heap.size + 1, 2, none⟩ = some (.slice C1 p1.length g1) := HS2.out.cell 1 rfl 2
        have q13 : w2.cell? ⟨w.heap.size + 1, 3, none⟩ = some (.int .i64 h1) := HS2.out.cell 1 rfl 3
        have q14 : w2.cell? ⟨w.heap.size + 1, 4, none⟩ = some (.int .i64 e1) := HS2.out.cell 1 rfl 4
        have q15 : w2.cell? ⟨w.heap.size + 1, 5, none⟩ = some (.int .i64 s1) := HS2.out.cell 1 rfl 5
        have q16 : w2.cell? ⟨w.heap.size + 1, 6, none⟩ = some (.int .i64 t1) := HS2.out.cell 1 rfl 6
        have q17 : w2.cell? ⟨w.heap.size + 1, 7, none⟩ = some (.slice D1 d1.length k1) := HS2.out.cell 1 rfl 7
        go_wp2
        go_ret
        exact ⟨by unfold same fin; rw [decide_eq_false Qs.out]; simp, HS2.out.B⟩
    · skip
      have ye1 : (e0 == e1) = false := by simp [ze]
      have ye2 : (e0 != e1) = true := by simp [ze]
      have Qe := Aside0.mk ze
      clear ze
      go_enter Try.func5, Try.ntmps5
      go_upto_region 1 with (fail)
      obtain ⟨w2, hw2⟩ : ∃ w2, w2 = (w.alloc (.cells #[.slice A0 n0.length a0, .slice B0 c0.length b0, .slice C0 p0.length g0, .int .i64 h0, .int .i64 e0, .int .i64 s0, .int .i64 t0, .slice D0 d0.length k0] 26 (0, 0))).alloc (.cells #[.slice A1 n1.length a1, .slice B1 c1.length b1, .slice C1 p1.length g1, .int .i64 h1, .int .i64 e1, .int .i64 s1, .int .i64 t1, .slice D1 d1.length k1] 26 (0, 0)) := ⟨_, rfl⟩
      have HS2 : Aside0 (St w w2 [Box w.heap.size #[.slice A0 n0.length a0, .slice B0 c0.length b0, .slice C0 p0.length g0, .int .i64 h0, .int .i64 e0, .int .i64 s0, .int .i64 t0, .slice D0 d0.length k0] 26, Box (w.heap.size + 1) #[.slice A1 n1.length a1, .slice B1 c1.length b1, .slice C1 p1.length g1, .int .i64 h1, .int .i64 e1, .int .i64 s1, .int .i64 t1, .slice D1 d1.length k1] 26]) := by rw [hw2]; exact ⟨by simpa using HS.out⟩
      rw [← hw2]
      clear hw2 HS
      have q00 : w2.cell? ⟨w.heap.size, 0, none⟩ = some (.slice A0 n0.length a0) := HS2.out.cell 0 rfl 0
      have q01 : w2.cell? ⟨w.heap.size, 1, none⟩ = some (.slice B0 c0.length b0) := HS2.out.cell 0 rfl 1
      have q02 : w2.cell? ⟨w.heap.size, 2, none⟩ = some (.slice C0 p0.length g0) := HS2.out.cell 0 rfl 2
      have q03 : w2.cell? ⟨w.heap.size, 3, none⟩ = some (.int .i64 h0) := HS2.out.cell 0 rfl 3
      have q04 : w2.cell? ⟨w.heap.size, 4, none⟩ = some (.int .i64 e0) := HS2.out.cell 0 rfl 4
      have q05 : w2.cell? ⟨w.heap.size, 5, none⟩ = some (.int .i64 s0) := HS2.out.cell 0 rfl 5
      have q06 : w2.cell? ⟨w.heap.size, 6, none⟩ = some (.int .i64 t0) := HS2.out.cell 0 rfl 6
      have q07 : w2.cell? ⟨w.heap.size, 7, none⟩ = some (.slice D0 d0.length k0) := HS2.out.cell 0 rfl 7
      have q10 : w2.cell? ⟨w.heap.size + 1, 0, none⟩ = some (.slice A1 n1.length a1) := HS2.out.cell 1 rfl 0
      have q11 : w2.cell? ⟨w.heap.size + 1, 1, none⟩ = some (.slice B1 c1.length b1) := HS2.out.cell 1 rfl 1
      have q12 : w2.cell? ⟨w.heap.size + 1, 2, none⟩ = some (.slice C1 p1.length g1) := HS2.out.cell 1 rfl 2
      have q13 : w2.cell? ⟨w.heap.size + 1, 3, none⟩ = some (.int .i64 h1) := HS2.out.cell 1 rfl 3
      have q14 : w2.cell? ⟨w.heap.size + 1, 4, none⟩ = some (.int .i64 e1) := HS2.out.cell 1 rfl 4
      have q15 : w2.cell? ⟨w.heap.size + 1, 5, none⟩ = some (.int .i64 s1) := HS2.out.cell 1 rfl 5
      have q16 : w2.cell? ⟨w.heap.size + 1, 6, none⟩ = some (.int .i64 t1) := HS2.out.cell 1 rfl 6
      have q17 : w2.cell? ⟨w.heap.size + 1, 7, none⟩ = some (.slice D1 d1.length k1) := HS2.out.cell 1 rfl 7
      go_wp2
      go_ret
      exact ⟨by unfold same fin; rw [decide_eq_false Qe.out]; simp, HS2.out.B⟩
  · skip
    have yh1 : (h0 == h1) = false := by simp [zh]
    have yh2 : (h0 != h1) = true := by simp [zh]
    have Qh := Aside0.mk zh
    clear zh
    go_enter Try.func5, Try.ntmps5
    go_upto_region 1 with (fail)
    obtain ⟨w2, hw2⟩ : ∃ w2, w2 = (w.alloc (.cells #[.slice A0 n0.length a0, .slice B0 c0.length b0, .slice C0 p0.length g0, .int .i64 h0, .int .i64 e0, .int .i64 s0, .int .i64 t0, .slice D0 d0.length k0] 26 (0, 0))).alloc (.cells #[.slice A1 n1.length a1, .slice B1 c1.length b1, .slice C1 p1.length g1, .int .i64 h1, .int .i64 e1, .int .i64 s1, .int .i64 t1, .slice D1 d1.length k1] 26 (0, 0)) := ⟨_, rfl⟩
    have HS2 : Aside0 (St w w2 [Box w.heap.size #[.slice A0 n0.length a0, .slice B0 c0.length b0, .slice C0 p0.length g0, .int .i64 h0, .int .i64 e0, .int .i64 s0, .int .i64 t0, .slice D0 d0.length k0] 26, Box (w.heap.size + 1) #[.slice A1 n1.length a1, .slice B1 c1.length b1, .slice C1 p1.length g1, .int .i64 h1, .int .i64 e1, .int .i64 s1, .int .i64 t1, .slice D1 d1.length k1] 26]) := by rw [hw2]; exact ⟨by simpa using HS.out⟩
    rw [← hw2]
    clear hw2 HS
    have q00 : w2.cell? ⟨w.heap.size, 0, none⟩ = some (.slice A0 n0.length a0) := HS2.out.cell 0 rfl 0
    have q01 : w2.cell? ⟨w.heap.size, 1, none⟩ = some (.slice B0 c0.length b0) := HS2.out.cell 0 rfl 1
    have q02 : w2.cell? ⟨w.heap.size, 2, none⟩ = some (.slice C0 p0.length g0) := HS2.out.cell 0 rfl 2
    have q03 : w2.cell? ⟨w.heap.size, 3, none⟩ = some (.int .i64 h0) := HS2.out.cell 0 rfl 3
    have q04 : w2.cell? ⟨w.heap.size, 4, none⟩ = some (.int .i64 e0) := HS2.out.cell 0 rfl 4
    have q05 : w2.cell? ⟨w.heap.size, 5, none⟩ = some (.int .i64 s0) := HS2.out.cell 0 rfl 5
    have q06 : w2.cell? ⟨w.heap.size, 6, none⟩ = some (.int .i64 t0) := HS2.out.cell 0 rfl 6
    have q07 : w2.cell? ⟨w.heap.size, 7, none⟩ = some (.slice D0 d0.length k0) := HS2.out.cell 0 rfl 7
    have q10 : w2.cell? ⟨w.heap.size + 1, 0, none⟩ = some (.slice A1 n1.length a1) := HS2.out.cell 1 rfl 0
    have q11 : w2.cell? ⟨w.heap.size + 1, 1, none⟩ = some (.slice B1 c1.length b1) := HS2.out.cell 1 rfl 1
    have q12 : w2.cell? ⟨w.heap.size + 1, 2, none⟩ = some (.slice C1 p1.length g1) := HS2.out.cell 1 rfl 2
    have q13 : w2.cell? ⟨w.heap.size + 1, 3, none⟩ = some (.int .i64 h1) := HS2.out.cell 1 rfl 3
    have q14 : w2.cell? ⟨w.heap.size + 1, 4, none⟩ = some (.int .i64 e1) := HS2.out.cell 1 rfl 4
    have q15 : w2.cell? ⟨w.heap.size + 1, 5, none⟩ = some (.int .i64 s1) := HS2.out.cell 1 rfl 5
    have q16 : w2.cell? ⟨w.heap.size + 1, 6, none⟩ = some (.int .i64 t1) := HS2.out.cell 1 rfl 6
    have q17 : w2.cell? ⟨w.heap.size + 1, 7, none⟩ = some (.slice D1 d1.length k1) := HS2.out.cell 1 rfl 7
    go_wp2
    go_ret
    exact ⟨by unfold same fin; rw [decide_eq_false Qh.out]; simp, HS2.out.B⟩
end EqF
end Go.Proofs.Ytmhndfnmdkeiaaa
