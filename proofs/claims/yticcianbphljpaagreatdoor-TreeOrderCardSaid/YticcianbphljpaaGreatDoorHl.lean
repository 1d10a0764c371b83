/- Reads taken first in a region that draws its order and makes memory (the kit's held walk): cells, structs of many cells. -/
import Derived.Test.YticcianbphljpaaGreatDoorP7x
import Derived.Test.YticcianbphljpaaGreatDoorP5x
import Derived.Deep.RegionHeld
namespace Go.Proofs.YticcianbphljpaaGreatDoor
open Go.RowKit
section
variable {P : Program} {ops : Array Oper} {S : World → Prop} {o : Oper} {a : Act}
theorem yi_val (hgd : Region.wanted o (yielded ops a.tmps) = true) (v : Value) (h : ∀ w, (execOp a.eval o).run P w = .ok (.value v) w) : YieldsIf P ops S o v a := .inl ⟨hgd, fun w _ => h w⟩
theorem yi_cell (hgd : Region.wanted o (yielded ops a.tmps) = true) (ty : TypeId) (x : Operand) (ho : o.op = .load ty x) (ad : Addr) (hx : a.eval x = .pointer (some ad)) (v : Value) (hagg : ∀ w, (isAgg ty).run P w = .ok false w) (hc : ∀ w, S w → w.cell? ad = some v) : YieldsIf P ops S o v a :=
  .inl ⟨hgd, fun w hw => by
    have h : (loadVar ty ad).run P w = .ok v w := by simp [loadVar, hagg, go_sem, hc w hw]
    unfold execOp
    simp only [ho, hx, Sem.run_bind, Sem.run_pure]
    simp [Instr.loadAt, Instr.sureAddr, h]⟩
theorem yi_loadS (hgd : Region.wanted o (yielded ops a.tmps) = true) (ty : TypeId) (x : Operand) (ho : o.op = .load ty x) (ad : Addr) (hx : a.eval x = .pointer (some ad)) (cs : List Value) (hagg : ∀ w, (isAgg ty).run P w = .ok true w) (hi : (P.info? ty).map (·.size) = some cs.length)
    (hc : ∀ w, S w → ∀ j u, cs[j]? = some u → w.cell? (ad.add j) = some u) : YieldsIf P ops S o (.agg cs.toArray) a :=
  .inl ⟨hgd, fun w hw => by
    unfold execOp
    simp only [ho, hx, Sem.run_bind, Sem.run_pure, Result.andThen_ok, run_loadS w ty ad cs (hagg w) hi (hc w hw)]⟩
end
end Go.Proofs.YticcianbphljpaaGreatDoor
