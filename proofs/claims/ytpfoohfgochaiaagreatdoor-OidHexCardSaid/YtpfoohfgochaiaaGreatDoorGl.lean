/- Package-level variables, as they are laid; what keeps them. -/
import Derived.Test.YtpfoohfgochaiaaGreatDoorLe
namespace Go.Proofs.YtpfoohfgochaiaaGreatDoor
open Go.RowKit
theorem var_below {P : Program} {w w1 : World} {n : String} {cs : Array Value} (h : w.var? P n = some cs) (hb : Below w.heap.size w w1) : w1.var? P n = some cs := by
  unfold World.var? at h ⊢
  cases hg : P.globalNamed n with
  | none => simp [hg] at h
  | some g =>
    simp only [hg, Option.bind_some] at h ⊢
    have hlt : g < w.heap.size := by
      rcases Nat.lt_or_ge g w.heap.size with h' | h'
      · exact h'
      · simp [Array.getElem?_eq_none h'] at h
    rw [hb.block g hlt]
    exact h
/-- What the program's start has laid. -/
structure Gl (W : World) : Prop where
  deb : Deb W
  pow : Lib.TabIs Tryz.prog W "internal/strconv.uint64pow10" .u64 Lib.pow10Tab
  mlen : ∃ m, W.cell? ⟨1, 0, none⟩ = some (.int .i64 m)
theorem Gl.below {W W1 : World} (h : Gl W) (hb : Below W.heap.size W W1) : Gl W1 :=
  ⟨h.deb.below hb, var_below h.pow hb, h.mlen.imp fun _ hm => (hb.cell (World.block_lt_of_cell? W _ hm)).trans hm⟩
theorem below_grow' (w : World) (k : Nat) (os : Array Obj) : Below w.heap.size w (Go.Sort.grow (w.drewN k) os) :=
  ⟨rfl, rfl, rfl, by simp [Go.Sort.grow], fun j hj => by
    show (w.heap ++ os)[j]? = _
    rw [Array.getElem?_append_left hj]⟩
/-- The decimal digits of a number that is not below 0. -/
theorem itoa_any (W : World) (n : Nat) (hn : n ≤ 9223372036854775807) (hG : Gl W) : Calls Tryz.prog 119 #[.int .i64 n] W fun e W' => e = .returned (.string ⟨(Lib.decDigits n).toArray⟩) ∧ Below W.heap.size W W' := by
  refine (Tryz.strconv_Itoa (n : Int) (by omega) (by omega) W hG.pow).mono ?_
  rintro e W' ⟨rfl, k, os, rfl⟩
  refine ⟨by simp [Lib.itoa], ?_⟩
  exact below_grow' _ _ _
end Go.Proofs.YtpfoohfgochaiaaGreatDoor
