/- sha.New, slices.Clone at bytes, Put at a nil hash. -/
import Derived.Test.YtpfoohfgochaiaaGreatDoorHp
namespace Go.Proofs.YtpfoohfgochaiaaGreatDoor
open Go.RowKit
theorem RowQ.empty_new (W : World) (e : TypeId) (size : Nat) : RowQ (W.alloc (.cells #[] e)) W.heap.size e size (.slice (some ⟨W.heap.size, 0, none⟩) 0 0) 0 [] :=
  ⟨by simp, .inr ⟨W.heap.size, 0, 0, #[], rfl, Nat.le_refl _, heap_alloc_new W _, Nat.le_refl _, by simp, by simp, by simp⟩⟩
theorem src_lt {w : World} {size : Nat} {A : Option Addr} {m : Nat} {news : List Value} (h : Src w size A m news) (hsz : 0 < size) : ∀ ad, A = some ad → 0 < m → ad.block < w.heap.size := by
  intro ad hA hm
  obtain ⟨ad', hA', hc⟩ := h.2.1 hm
  obtain rfl : ad' = ad := by rw [hA] at hA'; injection hA' with e; exact e.symm
  have hl : 0 < news.length := by rw [h.1]; exact Nat.mul_pos hm hsz
  have := World.block_lt_of_cell? w _ (hc 0 _ (List.getElem?_eq_getElem hl))
  simpa [Addr.add] using this
theorem src_alloc {w : World} {A : Option Addr} {m : Nat} {news : List Value} (h : Src w 1 A m news) (o : Obj) : ∀ ad, A = some ad → 0 < m → (w.alloc o).heap[ad.block]? = w.heap[ad.block]? :=
  fun ad hA hm => Below.heap_alloc w o _ (src_lt h (by decide) ad hA hm)
theorem src_below {w w' : World} {A : Option Addr} {m : Nat} {news : List Value} (h : Src w 1 A m news) (hb : Below w.heap.size w w') : Src w' 1 A m news :=
  h.far fun ad hA hm => hb.block _ (src_lt h (by decide) ad hA hm)
/-- append to a row of the call's own, as one step of a region that draws. -/
theorem step_append_Q {P : Program} {ops : Array Oper} {o : Oper} {a : Act} {w : World} {K : Act → World → Prop} {Q : Exit → Act → World → Prop} {E : Prop} (hgd : o.guard = none) (s x : Operand) (t : TypeId) (ho : o.op = .call { callee := .builtin .append, args := #[s, x], argTypes := #[t, t] })
    (base : Nat) (e : TypeId) (z : Value) (size bytes : Nat) (ht : P.underlying t = some (.slice e)) (hinfo : (P.info? e).map (fun i => (i.zero, i.size, i.bytes)) = some (some z, size, bytes)) (hzs : z.cells.size = size) (hsz : 0 < size)
    (v : Value) (n : Nat) (xs : List Value) (hs : a.eval s = v) (hown : RowQ w base e size v n xs)
    (A : Option Addr) (m c : Nat) (news : List Value) (hx : a.eval x = .slice A m c) (hsrc : Src w size A m news)
    (h63 : n + m ≤ 140737488355328) (hbytes : (n + m) * bytes ≤ 140737488355328) (hbase : base ≤ w.heap.size)
    (h : ∀ v' w', RowQ w' base e size v' (n + m) (xs ++ news) → w.grownBy w' v.ownBlock → (v'.ownBlock = v.ownBlock ∨ v'.ownBlock = some w.heap.size) → K (a.put o.dst v') w') :
    if Region.wanted o (yielded ops a.tmps) = true then Oper.wp P o a w K Q else E := by
  rw [if_pos (by simp [Region.wanted, hgd])]
  obtain ⟨i0, hi, hzz⟩ := Option.map_eq_some_iff.1 hinfo
  simp only [Prod.mk.injEq] at hzz
  obtain ⟨hz0, hz1, hz2⟩ := hzz
  obtain ⟨v', w', hr, h2, h3, h4⟩ := run_append_Q (P := P) w base t o.type e i0 z size bytes ht hi hz0 hz1 hz2 hzs hsz v n xs hown A m c news hsrc (by simp only [maxLen]; omega) hbytes hbase
  unfold Oper.wp execOp
  simp only [ho, resolve, invoke, builtin, Sem.run_bind, Sem.run_pure, Result.andThen_ok, List.map_toArray, List.map_cons, List.map_nil, hs, hx, hr]
  exact h v' w' h2 h3 h4
def NewPost (W : World) (e : Ending) (W' : World) : Prop := ∃ g, e = .returned (.pointer (some ⟨g, 0, none⟩)) ∧ W.heap.size ≤ g ∧ HashAt W' W.heap.size g st0 (.slice none 0 0) [] 0 ∧ Below W.heap.size W W'
set_option maxRecDepth 100000 in
set_option maxHeartbeats 400000 in
theorem new_any (W : World) : Calls Tryz.prog 24 #[] W (NewPost W) := by
  go_enter Tryz.func24, Tryz.ntmps24
  go_wp2_with fail
  refine (first_any _).mono ?_
  rintro e w1 ⟨rfl, hb1⟩
  have HB := Lib.hid hb1
  clear hb1
  go_wp2_with (refine wpl_build rfl 97 _ rfl (Us st0.list ++ [.slice none 0 0, .int .u64 0]) (by kernel_rfl) ?_)
  go_ret
  exact ⟨w1.heap.size, rfl, HB.out.size, ⟨Blk.new w1 _ _, RowQ.nil _ _ _ _, by simp [Value.ownBlock], HB.out.size⟩, HB.out.alloc HB.out.size _⟩
def ClonePost (W : World) (n : Nat) (xs : List Value) (e : Ending) (W' : World) : Prop := ∃ v, e = .returned v ∧ RowQ W' W.heap.size 5 1 v n xs ∧ Below W.heap.size W W'
set_option maxHeartbeats 400000 in
theorem clone_nil (W : World) : Calls Tryz.prog 90 #[.slice none 0 0] W (ClonePost W 0 []) := by
  have hnil := fun W => Lib.run_eql_slice_nil (P := Tryz.prog) (w := W)
  go_enter Tryz.func90, Tryz.ntmps90
  go_wp2
  go_ret
  exact ⟨_, rfl, RowQ.nil _ _ _ _, Below.refl _ _⟩
set_option maxHeartbeats 400000 in
theorem clone_some (W : World) (ad : Addr) (n c : Nat) (xs : List Value) (hs : Src W 1 (some ad) n xs) (hn : n ≤ 140737488355328) :
    Calls Tryz.prog 90 #[.slice (some ad) n c] W (ClonePost W n xs) := by
  have hnil : ∀ W, (binOp .eql 22 (.slice (some ad) n c) (.slice none 0 0)).run Tryz.prog W = .ok (.bool false) W := fun W => Lib.run_eql_slice_nil (P := Tryz.prog) W 22 5 (some ad) n c 0 0 Tryz.underlying22
  have HS := Lib.hid hs
  clear hs
  go_enter Tryz.func90, Tryz.ntmps90
  go_wp2_with (at_builtin; refine wpl_append rfl (.tmp 5) (.tmp 6) 22 rfl W.heap.size 5 (.int .u8 0) 1 1 Tryz.underlying22 Tryz.info5 rfl (by decide) (.slice (some ⟨W.heap.size, 0, none⟩) 0 0) 0 [] rfl (RowQ.empty_new W 5 1) (some ad) n c xs rfl (HS.out.far (src_alloc HS.out _)) (by omega) (by omega) (by simp) ?_; intro v1 w1 hr1 hg1 hat1; have P1 := Lib.hid (And.intro hr1 (And.intro hg1 hat1)); clear hr1 hg1 hat1)
  go_ret
  obtain ⟨h1, h2, h3⟩ := P1.out
  refine ⟨v1, rfl, by simpa using h1, ?_⟩
  exact ((Below.refl _ W).alloc (Nat.le_refl _) _).grown h2 (by simp) (by intro k hk; simp [Value.ownBlock] at hk; omega)
theorem clone_row (W : World) (B : Nat) (A : Option Addr) (n c : Nat) (rs : List UInt8) (h : RowQ W B 5 1 (.slice A n c) n (Bs rs)) (hn : n ≤ 140737488355328) :
    Calls Tryz.prog 90 #[.slice A n c] W (ClonePost W n (Bs rs)) := by
  rcases h.2 with ⟨hv, hn0⟩ | ⟨g, o, cap, cur, hv, _⟩
  · injection hv with h1 h2 h3
    subst h1; subst h2; subst h3
    have hx : Bs rs = [] := List.eq_nil_of_length_eq_zero (by simpa using h.1)
    rw [hx]
    exact clone_nil W
  · injection hv with h1 h2 h3
    subst h1
    exact clone_some W _ n c (Bs rs) (h.src (Bs_one rs)) hn
theorem RowQ.mono {w : World} {base base' : Nat} {e : TypeId} {size : Nat} {v : Value} {n : Nat} {xs : List Value} (h : RowQ w base e size v n xs) (hb : base' ≤ base) : RowQ w base' e size v n xs := by
  refine ⟨h.1, ?_⟩
  rcases h.2 with h | ⟨g, o, cap, cur, rfl, hbg, r⟩
  · exact .inl h
  · exact .inr ⟨g, o, cap, cur, rfl, by omega, r⟩
end Go.Proofs.YtpfoohfgochaiaaGreatDoor
