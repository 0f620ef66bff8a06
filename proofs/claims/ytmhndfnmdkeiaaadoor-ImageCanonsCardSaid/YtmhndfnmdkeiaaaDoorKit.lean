/- Words of this session's own: rules for walks: make with a capacity, tailed rows. No condition. -/
import Derived.Test.YtmhndfnmdkeiaaaDoorWMore
import Derived.Test.YtmhndfnmdkeiaaaDoorWNEv
import Derived.WalkSpells
set_option linter.unusedVariables false
namespace Go.Proofs.YtmhndfnmdkeiaaaDoor
namespace KitW
open Go.RowKit Go.Proofs.YtmhndfnmdkeiaaaDoorW.PrintWords Go.Proofs.YtmhndfnmdkeiaaaDoorW.PrintLast Go.Proofs.YtmhndfnmdkeiaaaDoorW.PrintMore

section
variable {P : Program} {ops : Array Oper} {rest : List Oper} {o : Oper} {a : Act} {Q : Exit → Act → World → Prop} {Kc : Act → World → Prop} {α : Type}

theorem run_makeCap (d : Kd α) {w0 W : World} (base e : Nat) (t : TypeId) (n : Int)
    (ht : P.underlying t = some (.slice e)) (z : Value) (bytes : Nat) (hinfo : (P.info? e).map (fun i => (i.zero, i.size, i.bytes)) = some (some z, d.sz, bytes)) (hs0 : 0 < d.sz) (hb0 : 0 < bytes)
    {ok : Nat → Prop} (hfresh : ok W.heap.size) (h0 : 0 ≤ n) (hl : n.toNat * bytes ≤ 281474976710656) (HB : Below base w0 W) (hbase : base ≤ W.heap.size) :
    ∃ w1 c, (Instr.makeSlice t (.int .i64 0) (.int .i64 n)).run P W = .ok (.slice (some ⟨W.heap.size, 0, none⟩) 0 c) w1 ∧ d.R e w1 base ok (.slice (some ⟨W.heap.size, 0, none⟩) 0 c) [] ∧ Below base w0 w1 ∧ W.grownBy w1 none := by
  obtain ⟨m, rfl⟩ := Int.eq_ofNat_of_zero_le h0
  simp only [Int.toNat_natCast] at hl
  obtain ⟨i0, hi, hzz⟩ := Option.map_eq_some_iff.1 hinfo
  simp only [Prod.mk.injEq] at hzz
  obtain ⟨hz0, hz1, hz2⟩ := hzz
  have hm : m ≤ 281474976710656 := Nat.le_trans (Nat.le_mul_of_pos_right _ hb0) hl
  obtain ⟨w1, hr, ho, hg⟩ := run_make_own (P := P) W base t e i0 z d.sz ht hi hz0 hz1 .i64 .i64 m (by rw [hz2, Nat.mul_comm]; exact hl) (by unfold maxLen; omega) hbase
  refine ⟨w1, m, hr, ⟨fun k hk => ?_, [], ho, Reps.none _ _⟩, pw_below_grown HB none hbase hg (by simp), hg⟩
  simp [Value.ownBlock] at hk
  subst hk
  exact hfresh
/-- make([]T, 0, n): a row of the call's own, empty, with room. -/
theorem makeCap_step (d : Kd α) {w0 W : World} (base e : Nat) (hw : Region.wanted o (yielded ops a.tmps) = true) {N : Tmp} (hd : o.dst = some N) (t : TypeId) (x y : Operand) (ho : o.op = .makeSlice t x y) (n : Int) (hx : a.eval x = .int .i64 0) (hy : a.eval y = .int .i64 n)
    (ht : P.underlying t = some (.slice e)) (z : Value) (bytes : Nat) (hinfo : (P.info? e).map (fun i => (i.zero, i.size, i.bytes)) = some (some z, d.sz, bytes)) (hs0 : 0 < d.sz) (hb0 : 0 < bytes)
    {ok : Nat → Prop} (hfresh : ok W.heap.size) (h0 : 0 ≤ n) (hl : n.toNat * bytes ≤ 281474976710656) (HB : Below base w0 W) (hbase : base ≤ W.heap.size)
    (h : ∀ v1 w1, d.R e w1 base ok v1 [] → Below base w0 w1 → W.grownBy w1 none → v1.ownBlock = some W.heap.size → Kc (a.put o.dst v1) w1) : if Region.wanted o (yielded ops a.tmps) = true then Oper.wp P o a W Kc Q else Kc (a.put o.dst undef) W := by
  rw [if_pos hw]
  obtain ⟨w1, c, hr, hR, hB, hg⟩ := run_makeCap (P := P) (ok := ok) d base e t n ht z bytes hinfo hs0 hb0 hfresh h0 hl HB hbase
  have hk := h _ _ hR hB hg rfl
  simp only [Oper.wp]
  have he : (execOp a.eval o).run P W = .ok (.value (.slice (some ⟨W.heap.size, 0, none⟩) 0 c)) w1 := by
    simp [execOp, ho, hx, hy, hr]
  rw [he]
  exact hk
theorem makeCap_list (d : Kd α) {w0 W : World} (base e : Nat) (hgd : o.guard = none) {N : Tmp} (hd : o.dst = some N) (t : TypeId) (x y : Operand) (ho : o.op = .makeSlice t x y) (n : Int) (hx : a.eval x = .int .i64 0) (hy : a.eval y = .int .i64 n)
    (ht : P.underlying t = some (.slice e)) (z : Value) (bytes : Nat) (hinfo : (P.info? e).map (fun i => (i.zero, i.size, i.bytes)) = some (some z, d.sz, bytes)) (hs0 : 0 < d.sz) (hb0 : 0 < bytes)
    {ok : Nat → Prop} (hfresh : ok W.heap.size) (h0 : 0 ≤ n) (hl : n.toNat * bytes ≤ 281474976710656) (HB : Below base w0 W) (hbase : base ≤ W.heap.size)
    (h : ∀ v1 w1, d.R e w1 base ok v1 [] → Below base w0 w1 → W.grownBy w1 none → v1.ownBlock = some W.heap.size → wpList P ops Q rest (a.put o.dst v1) w1) : wpList P ops Q (o :: rest) a W := by
  obtain ⟨w1, c, hr, hR, hB, hg⟩ := run_makeCap (P := P) (ok := ok) d base e t n ht z bytes hinfo hs0 hb0 hfresh h0 hl HB hbase
  exact Kd.event_run hgd (by simp [execOp, ho, hx, hy, hr]) (h _ _ hR hB hg rfl)
end
end KitW
end Go.Proofs.YtmhndfnmdkeiaaaDoor
