/- (*sha.Hash).Put: a hash takes bytes. sha.New, slices.Clone at bytes, Put at a nil hash. when: floats and their bits. math.Copysign; 64 bits. -/
import Derived.Test.YtcomibocajjhoaaGreatDoorH
import Derived.Deep.LoopGhost
import Derived.Deep.RegionWith
namespace Go.Proofs.YtcomibocajjhoaaGreatDoor
open Go.RowKit
attribute [local go_sem] un_add un_shl8 un_of_byte un_addm un_and un_or un_xor un_not un_not' un_shl8m un_shr3 un_shr10 ub_mod un_mod
theorem Tryz.info5 : (Tryz.prog.info? 5).map (fun i => (i.zero, i.size, i.bytes)) = some (some (.int .u8 0), 1, 1) := by kernel_rfl
section
variable {P : Program} {ops : Array Oper} {rest : List Oper} {op : Oper} {a : Act} {w : World} {Q : Exit → Act → World → Prop}
theorem wpl_store_mid (hgd : op.guard = none) (ty : TypeId) (x y : Operand) (ho : op.op = .store ty x y) (b o : Nat) (cs : List Value) (hx : a.eval x = .pointer (some ⟨b, o, none⟩)) (hy : a.eval y = .agg cs.toArray)
    (ht : w.there b o cs.length) (hi : (P.info? ty).map (·.size) = some cs.length) (h1 : ∀ v ∈ cs, v.oneCell' = true) (h : wpList P ops Q rest (a.put op.dst undef) (w.setCells b o cs)) : wpList P ops Q (op :: rest) a w :=
  wpList_store_mid hgd ty x y ho b o cs.toArray hx hy (by simpa using ht) (by simpa using hi) (all_oneCell_toArray h1) (by simpa using h)
end
def PutPost (W : World) (B g : Nat) (s' : St) (rs' : List UInt8) (n' : Int) (r : Option Nat) (W' : World) : Prop :=
  ∃ v', HashAt W' B g s' v' rs' n' ∧ Kept2 W W' g r ∧ (v'.ownBlock = r ∨ ∃ k, v'.ownBlock = some k ∧ W.heap.size ≤ k)
/-- In the round: what is left, and what the whole comes to. -/
def PutIn (W : World) (B g : Nat) (n' : Int) (r : Option Nat) (S : St × List UInt8) (k : Nat) (wr : World) : Prop :=
  ∃ s rs, rs.length = k ∧ k ≤ 140737488355328 ∧ absorb s rs = S ∧ PutPost W B g s rs n' r wr
theorem mixed_at (s : St) (g o c : Nat) (bs : List UInt8) (w : World) (hc : 64 ≤ c) (hm : c ≤ 9223372036854775807) (hg : g < w.heap.size) (hb : BytesAt w g o 64 bs) :
    Calls Tryz.prog 160 #[.agg #[.int .u32 (un s.a), .int .u32 (un s.b), .int .u32 (un s.c), .int .u32 (un s.d), .int .u32 (un s.e), .int .u32 (un s.f), .int .u32 (un s.g), .int .u32 (un s.h)], .slice (some ⟨g, o, none⟩) 64 c] w fun e w' =>
      ∃ m : St, mix s bs = m ∧ e = .returned (.agg #[.int .u32 (un m.a), .int .u32 (un m.b), .int .u32 (un m.c), .int .u32 (un m.d), .int .u32 (un m.e), .int .u32 (un m.f), .int .u32 (un m.g), .int .u32 (un m.h)]) ∧ Below w.heap.size w w' :=
  (mixed_any s g o c bs w hc hm hg hb).mono fun _ _ ⟨he, hw⟩ => ⟨_, rfl, he, hw⟩
theorem HashAt.eight {W : World} {B g : Nat} {s : St} {v : Value} {rs : List UInt8} {n : Int} (h : HashAt W B g s v rs n) :
    (W.cell? ⟨g, 0, none⟩ = some (.int .u32 (un s.a)) ∧ W.cell? ⟨g, 1, none⟩ = some (.int .u32 (un s.b)) ∧ W.cell? ⟨g, 2, none⟩ = some (.int .u32 (un s.c)) ∧ W.cell? ⟨g, 3, none⟩ = some (.int .u32 (un s.d)) ∧
      W.cell? ⟨g, 4, none⟩ = some (.int .u32 (un s.e)) ∧ W.cell? ⟨g, 5, none⟩ = some (.int .u32 (un s.f)) ∧ W.cell? ⟨g, 6, none⟩ = some (.int .u32 (un s.g)) ∧ W.cell? ⟨g, 7, none⟩ = some (.int .u32 (un s.h))) ∧
    W.frozen? ⟨g, 0, none⟩ = false ∧ W.frozen? ⟨g, 1, none⟩ = false ∧ W.frozen? ⟨g, 2, none⟩ = false ∧ W.frozen? ⟨g, 3, none⟩ = false ∧ W.frozen? ⟨g, 4, none⟩ = false ∧ W.frozen? ⟨g, 5, none⟩ = false ∧ W.frozen? ⟨g, 6, none⟩ = false ∧ W.frozen? ⟨g, 7, none⟩ = false :=
  ⟨⟨h.1.cell 0 _ rfl, h.1.cell 1 _ rfl, h.1.cell 2 _ rfl, h.1.cell 3 _ rfl, h.1.cell 4 _ rfl, h.1.cell 5 _ rfl, h.1.cell 6 _ rfl, h.1.cell 7 _ rfl⟩, h.1.frozen 0, h.1.frozen 1, h.1.frozen 2, h.1.frozen 3, h.1.frozen 4, h.1.frozen 5, h.1.frozen 6, h.1.frozen 7⟩
theorem Src.far {w w' : World} {size : Nat} {A : Option Addr} {m : Nat} {news : List Value} (h : Src w size A m news) (hb : ∀ ad, A = some ad → 0 < m → w'.heap[ad.block]? = w.heap[ad.block]?) : Src w' size A m news := by
  refine ⟨h.1, fun hm => ?_, h.2.2⟩
  obtain ⟨ad, hA, hc⟩ := h.2.1 hm
  refine ⟨ad, hA, fun j u hu => ?_⟩
  have hbl : (ad.add j).block = ad.block := by unfold Addr.add; split <;> rfl
  exact (World.cell?_of_block (w := w) (by rw [hbl]; exact hb ad hA hm)).trans (hc j u hu)
/-- Behind the append of Put: what was counted, what was appended, what was stored. -/
theorem put_step {W w1 : World} {B g : Nat} {s : St} {v v1 : Value} {rs bs : List UInt8} {n n' : Int} {m : Nat} (h : HashAt W B g s v rs n) (hl : bs.length = m)
    (hr : RowQ w1 B 5 1 v1 (rs.length + m) (Bs rs ++ Bs bs)) (hg : (W.setCell ⟨g, 9, none⟩ (.int .u64 n')).grownBy w1 v.ownBlock)
    (hat : v1.ownBlock = v.ownBlock ∨ v1.ownBlock = some (W.setCell ⟨g, 9, none⟩ (.int .u64 n')).heap.size) :
    (Blk w1 g 190 (Us s.list ++ [v, .int .u64 n'])) ∧ PutPost W B g s (rs ++ bs) n' v.ownBlock (w1.setCell ⟨g, 8, none⟩ v1) := by
  have hs : (W.setCell ⟨g, 9, none⟩ (.int .u64 n')).heap.size = W.heap.size := by simp [World.setCell]
  rw [hs] at hat
  have hgl := h.1.lt
  have b1 : Blk w1 g 190 (Us s.list ++ [v, .int .u64 n']) := (h.setN n').1.grown hg (fun e => h.2.2.1 e.symm)
  have hne : v1.ownBlock ≠ some g := by
    rcases hat with e | e <;> rw [e]
    · exact h.2.2.1
    · intro e'; injection e' with e'; omega
  refine ⟨b1, v1, ⟨b1.setCell 8 v1, ?_, hne, h.2.2.2⟩, ?_, ?_⟩
  · rw [Bs_append, List.length_append, hl]
    exact hr.far hne _
  · exact (((Kept2.refl W g v.ownBlock).setCell 9 _).grown hg (.inl rfl)).setCell 8 _
  · rcases hat with e | e
    · exact .inl e
    · exact .inr ⟨_, e, Nat.le_refl _⟩
theorem put_round {W w3 : World} {B g g2 o2 c2 : Nat} {s1 M : St} {rs1 : List UInt8} {n' : Int} {r0 : Option Nat} {S : St × List UInt8} {v3 : Value} (hge : 64 ≤ rs1.length) (hk2 : rs1.length ≤ 140737488355328) (hc2 : rs1.length ≤ c2)
    (hM : mix s1 (rs1.take 64) = M) (hH : HashAt w3 B g M (.slice (some ⟨g2, o2, none⟩) rs1.length c2) rs1 n') (hK : Kept2 W w3 g r0)
    (hat : (Value.slice (some ⟨g2, o2, none⟩) rs1.length c2).ownBlock = r0 ∨ ∃ k, (Value.slice (some ⟨g2, o2, none⟩) rs1.length c2).ownBlock = some k ∧ W.heap.size ≤ k) (hS : absorb s1 rs1 = S)
    (hv3 : v3 = .slice (if c2 = 64 then some ⟨g2, o2, none⟩ else some ⟨g2, o2 + 64, none⟩) (rs1.length - 64) (c2 - 64)) : PutIn W B g n' r0 S (rs1.length - 64) (w3.setCell ⟨g, 8, none⟩ v3) := by
  have hd := hH.2.1.drop 64 hge (by omega)
  have e1 : (Bs rs1).drop (64 * 1) = Bs (rs1.drop 64) := by simp [Bs]
  have e2 : (if c2 = 64 then some (⟨g2, o2, none⟩ : Addr) else (some (⟨g2, o2, none⟩ : Addr)).map (·.add (64 * 1))) = (if c2 = 64 then some ⟨g2, o2, none⟩ else some ⟨g2, o2 + 64, none⟩) := rfl
  have e3 : rs1.length - 64 = (rs1.drop 64).length := by simp
  rw [e1, e2, ← hv3, e3] at hd
  have hob : v3.ownBlock = some g2 := by subst hv3; by_cases h : c2 = 64 <;> simp [Value.ownBlock, h]
  have hne : v3.ownBlock ≠ some g := by rw [hob]; exact hH.2.2.1
  refine ⟨M, rs1.drop 64, by simp, by omega, by rw [← hM, ← absorb_long s1 rs1 hge]; exact hS, v3, hH.setRest hd hne, hK.setCell 8 _, ?_⟩
  rw [hob]
  exact hat
set_option maxRecDepth 100000 in
set_option maxHeartbeats 1000000 in
theorem put_any (W : World) (B g : Nat) (s : St) (v : Value) (rs : List UInt8) (n : Int) (A : Option Addr) (m c : Nat) (bs : List UInt8)
    (h : HashAt W B g s v rs n) (hs : Src W 1 A m (Bs bs)) (hA : ∀ ad, A = some ad → ad.block ≠ g) (hn : 0 ≤ n) (hnm : n + m ≤ 140737488355328) (hlen : rs.length + m ≤ 140737488355328) (hB : B ≤ W.heap.size) :
    Calls Tryz.prog 121 #[.pointer (some ⟨g, 0, none⟩), .slice A m c] W fun e W' =>
      e = .returned (.tuple #[]) ∧ PutPost W B g (absorb s (rs ++ bs)).1 (absorb s (rs ++ bs)).2 (n + m) v.ownBlock W' := by
  obtain ⟨A0, c0, rfl, hc0, hm0⟩ := h.2.1.shape
  obtain ⟨c8, c9⟩ := h.cell
  have f9 := h.1.frozen 9
  have f8 := h.1.frozen 8
  have hl : bs.length = m := by have := hs.1; simpa using this
  have H := Lib.hid h
  have HS := Lib.hid (hs.far (w' := W.setCell ⟨g, 9, none⟩ (.int .u64 (n + m))) (fun ad e _ => heap_setCell_other W ⟨g, 9, none⟩ ad.block _ (hA ad e)))
  have HA := Lib.hid hA
  have HL := Lib.hid hl
  clear h hs hA hl
  go_enter Tryz.func121, Tryz.ntmps121
  go_wp2_with (at_builtin; refine wpl_append rfl (.tmp 20) (.tmp 21) 24 rfl B 5 (.int .u8 0) 1 1 Tryz.underlying24 Tryz.info5 rfl (by decide) (.slice A0 rs.length c0) rs.length (Bs rs) rfl (H.out.setN _).2.1 A m c (Bs bs) rfl HS.out (by omega) (by omega) (by simpa [World.setCell] using hB) ?_; intro v1 w1 hr1 hg1 hat1; obtain ⟨A1, c1, rfl, hc1, hm1⟩ := hr1.shape; obtain ⟨b1, P1⟩ := put_step H.out HL.out hr1 hg1 hat1; have x8 := b1.cell 8 _ rfl; have y8 := b1.frozen 8; have P1' := Lib.hid P1; clear P1 hr1 hg1 hat1 b1)
  obtain ⟨r0, hr0⟩ : ∃ r, r = (Value.slice A0 rs.length c0).ownBlock := ⟨_, rfl⟩
  obtain ⟨S, hS⟩ : ∃ S, S = absorb s (rs ++ bs) := ⟨_, rfl⟩
  obtain ⟨n', hn'⟩ : ∃ n', n' = n + (m : Int) := ⟨_, rfl⟩
  have Q0 := Lib.hid (show PutIn W B g n' r0 S (rs ++ bs).length (w1.setCell ⟨g, 8, none⟩ (.slice A1 (rs.length + m) c1)) from ⟨s, rs ++ bs, rfl, by rw [List.length_append, HL.out]; omega, hS.symm, by rw [hr0, hn']; exact P1'.out⟩)
  have HE := Lib.hid (And.intro hr0 (And.intro hS hn'))
  clear P1' hr0 hS hn' x8 y8
  go_loopg [25] (rs ++ bs).length (fun k _ wr => PutIn W B g n' r0 S k wr)
  case atStart => exact Q0.out
  case round =>
    obtain ⟨s1, rs1, hk, hk2, hS1, v', hH, hK, hat⟩ := hrel
    clear Q0
    subst hk
    obtain ⟨A2, c2, rfl, hc2, hm2⟩ := hH.2.1.shape
    obtain ⟨d8, d9⟩ := hH.cell
    by_cases hge : 64 ≤ rs1.length
    · obtain ⟨g2, o2, rfl, hBg2, hg2, hby⟩ := hH.2.1.bytes (by omega)
      have e0 := hH.1.cell 0 (.int .u32 (un s1.a)) rfl
      have e1 := hH.1.cell 1 (.int .u32 (un s1.b)) rfl
      have e2 := hH.1.cell 2 (.int .u32 (un s1.c)) rfl
      have e3 := hH.1.cell 3 (.int .u32 (un s1.d)) rfl
      have e4 := hH.1.cell 4 (.int .u32 (un s1.e)) rfl
      have e5 := hH.1.cell 5 (.int .u32 (un s1.f)) rfl
      have e6 := hH.1.cell 6 (.int .u32 (un s1.g)) rfl
      have e7 := hH.1.cell 7 (.int .u32 (un s1.h)) rfl
      have l1 : (64 : Int) ≤ (rs1.length : Int) := by omega
      have l2 : (64 : Int) ≤ (c2 : Int) := by omega
      have HX := Lib.hid (And.intro hH (And.intro hK (And.intro hat (And.intro hS1 (And.intro hby (And.intro hg2 hm2))))))
      clear hH hK hat hS1 hby hg2 hm2
      go_wp2
      go_region_with (go_at_call 160; refine (mixed_at s1 g2 o2 c2 (rs1.take 64) wr.drew (by omega) (by have := HX.out.2.2.2.2.2.2; simp only [maxLen] at this; omega) HX.out.2.2.2.2.2.1 (HX.out.2.2.2.2.1.take 64 hge)).mono ?_; rintro e w2 ⟨M, hM, rfl, hb2⟩; have hb3 : Below wr.heap.size wr w2 := ⟨hb2.os, hb2.tape, hb2.output, hb2.size, hb2.block⟩; obtain ⟨⟨i0, i1, i2, i3, i4, i5, i6, i7⟩, j0, j1, j2, j3, j4, j5, j6, j7⟩ := (HX.out.1.below hb3).eight; have H3 := Lib.hid (And.intro hM (And.intro (HX.out.1.below hb3) (HX.out.2.1.below hb3))); clear hM hb2 hb3 d8 d9 e0 e1 e2 e3 e4 e5 e6 e7)
      all_goals
        have P4 : Hid (HashAt (w2.setCells g 0 (Us M.list)) B g M (.slice (some ⟨g2, o2, none⟩) rs1.length c2) rs1 n' ∧ Kept2 W (w2.setCells g 0 (Us M.list)) g r0) := ⟨H3.out.2.1.setWords M, H3.out.2.2.setCells 0 _ (setCells_os g _ 0 w2)⟩
        show Exit.then _ _ Exit.normal _ (w2.setCells g 0 (Us M.list))
        generalize w2.setCells g 0 (Us M.list) = w3 at P4 ⊢
        have c8 := P4.out.1.cell.1
        have f8 := P4.out.1.1.frozen 8
        clear i0 i1 i2 i3 i4 i5 i6 i7 j0 j1 j2 j3 j4 j5 j6 j7
        go_wp2
        · have hcc : c2 = 64 := by assumption
          go_roundg (rs1.length - 64)
          case measure => omega
          case rel => exact put_round hge hk2 hc2 H3.out.1 P4.out.1 P4.out.2 HX.out.2.2.1 HX.out.2.2.2.1 (by rw [if_pos hcc]; simp [hcc])
        · have hcc : ¬ c2 = 64 := by assumption
          go_roundg (rs1.length - 64)
          case measure => omega
          case rel => exact put_round hge hk2 hc2 H3.out.1 P4.out.1 P4.out.2 HX.out.2.2.1 HX.out.2.2.2.1 (by rw [if_neg hcc])
    · have HX := Lib.hid (And.intro hH (And.intro hK (And.intro hat hS1)))
      clear hH hK hat hS1
      have l1 : ¬ (64 : Int) ≤ (rs1.length : Int) := by omega
      go_wp2
      first | go_end0 | refine bodyPost_ret (results_none rfl _ _ _) rfl ?_
      have ha := absorb_short s1 rs1 (by omega)
      obtain ⟨h1, h2, h3, h4⟩ := HX.out
      obtain ⟨q1, q2, q3⟩ := HE.out
      rw [ha] at h4
      refine ⟨rfl, .slice A2 rs1.length c2, ?_, ?_, ?_⟩
      · rw [← q2, ← h4, ← q3]; exact h1
      · rw [← q1]; exact h2
      · rw [← q1]; exact h3
end Go.Proofs.YtcomibocajjhoaaGreatDoor
namespace Go.Proofs.YtcomibocajjhoaaGreatDoor
open Go.RowKit
theorem RowQ.empty_new (W : World) (e : TypeId) (size : Nat) : RowQ (W.alloc (.cells #[] e)) W.heap.size e size (.slice (some ⟨W.heap.size, 0, none⟩) 0 0) 0 [] :=
  ⟨by simp, .inr ⟨W.heap.size, 0, 0, #[], rfl, Nat.le_refl _, heap_alloc_new W _, Nat.le_refl _, by simp, by simp, by simp⟩⟩
theorem src_lt {w : World} {size : Nat} {A : Option Addr} {m : Nat} {news : List Value} (h : Src w size A m news) (hsz : 0 < size) : ∀ ad, A = some ad → 0 < m → ad.block < w.heap.size := by
  intro ad hA hm
  obtain ⟨ad', hA', hc⟩ := h.2.1 hm
  obtain rfl : ad' = ad := by rw [hA] at hA'; injection hA' with e; exact e.symm
  have hl : 0 < news.length := by rw [h.1]; exact Nat.mul_pos hm hsz
  have := World.block_lt_of_cell? w _ (hc 0 _ (List.getElem?_eq_getElem hl))
  simpa [Addr.add] using this
theorem src_alloc {w : World} {A : Option Addr} {m : Nat} {news : List Value} (h : Src w 1 A m news) (o : Obj) : ∀ ad, A = some ad → 0 < m → (w.alloc o).heap[ad.block]? = w.heap[ad.block]? :=
  fun ad hA hm => Below.heap_alloc w o _ (src_lt h (by decide) ad hA hm)
theorem src_below {w w' : World} {A : Option Addr} {m : Nat} {news : List Value} (h : Src w 1 A m news) (hb : Below w.heap.size w w') : Src w' 1 A m news :=
  h.far fun ad hA hm => hb.block _ (src_lt h (by decide) ad hA hm)
/-- append to a row of the call's own, as one step of a region that draws. -/
theorem step_append_Q {P : Program} {ops : Array Oper} {o : Oper} {a : Act} {w : World} {K : Act → World → Prop} {Q : Exit → Act → World → Prop} {E : Prop} (hgd : o.guard = none) (s x : Operand) (t : TypeId) (ho : o.op = .call { callee := .builtin .append, args := #[s, x], argTypes := #[t, t] })
    (base : Nat) (e : TypeId) (z : Value) (size bytes : Nat) (ht : P.underlying t = some (.slice e)) (hinfo : (P.info? e).map (fun i => (i.zero, i.size, i.bytes)) = some (some z, size, bytes)) (hzs : z.cells.size = size) (hsz : 0 < size)
    (v : Value) (n : Nat) (xs : List Value) (hs : a.eval s = v) (hown : RowQ w base e size v n xs)
    (A : Option Addr) (m c : Nat) (news : List Value) (hx : a.eval x = .slice A m c) (hsrc : Src w size A m news)
    (h63 : n + m ≤ 140737488355328) (hbytes : (n + m) * bytes ≤ 140737488355328) (hbase : base ≤ w.heap.size)
    (h : ∀ v' w', RowQ w' base e size v' (n + m) (xs ++ news) → w.grownBy w' v.ownBlock → (v'.ownBlock = v.ownBlock ∨ v'.ownBlock = some w.heap.size) → K (a.put o.dst v') w') :
    if Region.wanted o (yielded ops a.tmps) = true then Oper.wp P o a w K Q else E := by
  rw [if_pos (by simp [Region.wanted, hgd])]
  obtain ⟨i0, hi, hzz⟩ := Option.map_eq_some_iff.1 hinfo
  simp only [Prod.mk.injEq] at hzz
  obtain ⟨hz0, hz1, hz2⟩ := hzz
  obtain ⟨v', w', hr, h2, h3, h4⟩ := run_append_Q (P := P) w base t o.type e i0 z size bytes ht hi hz0 hz1 hz2 hzs hsz v n xs hown A m c news hsrc (by simp only [maxLen]; omega) hbytes hbase
  unfold Oper.wp execOp
  simp only [ho, resolve, invoke, builtin, Sem.run_bind, Sem.run_pure, Result.andThen_ok, List.map_toArray, List.map_cons, List.map_nil, hs, hx, hr]
  exact h v' w' h2 h3 h4
def NewPost (W : World) (e : Ending) (W' : World) : Prop := ∃ g, e = .returned (.pointer (some ⟨g, 0, none⟩)) ∧ W.heap.size ≤ g ∧ HashAt W' W.heap.size g st0 (.slice none 0 0) [] 0 ∧ Below W.heap.size W W'
set_option maxRecDepth 100000 in
set_option maxHeartbeats 400000 in
theorem new_any (W : World) : Calls Tryz.prog 120 #[] W (NewPost W) := by
  go_enter Tryz.func120, Tryz.ntmps120
  go_wp2_with fail
  refine (first_any _).mono ?_
  rintro e w1 ⟨rfl, hb1⟩
  have HB := Lib.hid hb1
  clear hb1
  go_wp2_with (refine wpl_build rfl 190 _ rfl (Us st0.list ++ [.slice none 0 0, .int .u64 0]) (by kernel_rfl) ?_)
  go_ret
  exact ⟨w1.heap.size, rfl, HB.out.size, ⟨Blk.new w1 _ _, RowQ.nil _ _ _ _, by simp [Value.ownBlock], HB.out.size⟩, HB.out.alloc HB.out.size _⟩
def ClonePost (W : World) (n : Nat) (xs : List Value) (e : Ending) (W' : World) : Prop := ∃ v, e = .returned v ∧ RowQ W' W.heap.size 5 1 v n xs ∧ Below W.heap.size W W'
set_option maxHeartbeats 400000 in
theorem clone_nil (W : World) : Calls Tryz.prog 130 #[.slice none 0 0] W (ClonePost W 0 []) := by
  have hnil := fun W => Lib.run_eql_slice_nil (P := Tryz.prog) (w := W)
  go_enter Tryz.func130, Tryz.ntmps130
  go_wp2
  go_ret
  exact ⟨_, rfl, RowQ.nil _ _ _ _, Below.refl _ _⟩
set_option maxHeartbeats 400000 in
theorem clone_some (W : World) (ad : Addr) (n c : Nat) (xs : List Value) (hs : Src W 1 (some ad) n xs) (hn : n ≤ 140737488355328) :
    Calls Tryz.prog 130 #[.slice (some ad) n c] W (ClonePost W n xs) := by
  have hnil : ∀ W, (binOp .eql 24 (.slice (some ad) n c) (.slice none 0 0)).run Tryz.prog W = .ok (.bool false) W := fun W => Lib.run_eql_slice_nil (P := Tryz.prog) W 24 5 (some ad) n c 0 0 Tryz.underlying24
  have HS := Lib.hid hs
  clear hs
  go_enter Tryz.func130, Tryz.ntmps130
  go_wp2_with (at_builtin; refine wpl_append rfl (.tmp 5) (.tmp 6) 24 rfl W.heap.size 5 (.int .u8 0) 1 1 Tryz.underlying24 Tryz.info5 rfl (by decide) (.slice (some ⟨W.heap.size, 0, none⟩) 0 0) 0 [] rfl (RowQ.empty_new W 5 1) (some ad) n c xs rfl (HS.out.far (src_alloc HS.out _)) (by omega) (by omega) (by simp) ?_; intro v1 w1 hr1 hg1 hat1; have P1 := Lib.hid (And.intro hr1 (And.intro hg1 hat1)); clear hr1 hg1 hat1)
  go_ret
  obtain ⟨h1, h2, h3⟩ := P1.out
  refine ⟨v1, rfl, by simpa using h1, ?_⟩
  exact ((Below.refl _ W).alloc (Nat.le_refl _) _).grown h2 (by simp) (by intro k hk; simp [Value.ownBlock] at hk; omega)
theorem clone_row (W : World) (B : Nat) (A : Option Addr) (n c : Nat) (rs : List UInt8) (h : RowQ W B 5 1 (.slice A n c) n (Bs rs)) (hn : n ≤ 140737488355328) :
    Calls Tryz.prog 130 #[.slice A n c] W (ClonePost W n (Bs rs)) := by
  rcases h.2 with ⟨hv, hn0⟩ | ⟨g, o, cap, cur, hv, _⟩
  · injection hv with h1 h2 h3
    subst h1; subst h2; subst h3
    have hx : Bs rs = [] := List.eq_nil_of_length_eq_zero (by simpa using h.1)
    rw [hx]
    exact clone_nil W
  · injection hv with h1 h2 h3
    subst h1
    exact clone_some W _ n c (Bs rs) (h.src (Bs_one rs)) hn
theorem RowQ.mono {w : World} {base base' : Nat} {e : TypeId} {size : Nat} {v : Value} {n : Nat} {xs : List Value} (h : RowQ w base e size v n xs) (hb : base' ≤ base) : RowQ w base' e size v n xs := by
  refine ⟨h.1, ?_⟩
  rcases h.2 with h | ⟨g, o, cap, cur, rfl, hbg, r⟩
  · exact .inl h
  · exact .inr ⟨g, o, cap, cur, rfl, by omega, r⟩
end Go.Proofs.YtcomibocajjhoaaGreatDoor
namespace Go.Proofs.YtcomibocajjhoaaGreatDoor
open Go.RowKit
theorem run_bits (W : World) (b : Nat) : (callFunc 97 #[.float .f64 b]).run Tryz.prog W = .ok (.value (.int .u64 b)) W := by kernel_rfl
theorem run_frombits (W : World) (b : Int) : (callFunc 119 #[.int .u64 b]).run Tryz.prog W = .ok (.value (.float .f64 b.toNat)) W := by kernel_rfl
/-- Not a number; below 0 (or the nought below 0). -/
def fnan (b : Nat) : Bool := FloatKind.f64.format.order b b != some Ordering.eq
def fsign (b : Nat) : Bool := decide (wrap64 (b : Int) < 0)
set_option maxHeartbeats 400000 in
theorem isnan_any (W : World) (b : Nat) : Calls Tryz.prog 96 #[.float .f64 b] W fun e W' => e = .returned (.bool (fnan b)) ∧ W' = W := by
  go_enter Tryz.func96, Tryz.ntmps96
  go_wp2
  go_ret
  exact ⟨rfl, rfl⟩
set_option maxHeartbeats 400000 in
theorem signbit_any (W : World) (b : Nat) : Calls Tryz.prog 104 #[.float .f64 b] W fun e W' => e = .returned (.bool (fsign b)) ∧ W' = W := by
  have hb := fun W => run_bits W b
  go_enter Tryz.func104, Tryz.ntmps104
  go_wp2
  go_ret
  exact ⟨rfl, rfl⟩
def fabs (b : Nat) : Nat := (bits .andNot .u64 (b : Int) 9223372036854775808).toNat
set_option maxHeartbeats 400000 in
theorem abs_any (W : World) (b : Nat) : Calls Tryz.prog 137 #[.float .f64 b] W fun e W' => e = .returned (.float .f64 (fabs b)) ∧ W' = W := by
  have h1 := fun W => run_bits W b
  have h2 := fun W b => run_frombits W b
  go_enter Tryz.func137, Tryz.ntmps137
  go_wp2
  go_ret
  exact ⟨rfl, rfl⟩
def finf (b : Nat) : Bool := FloatKind.f64.format.order (fabs b) 9218868437227405311 == some Ordering.gt
set_option maxRecDepth 10000 in
set_option maxHeartbeats 400000 in
theorem isinf_any (W : World) (b : Nat) : Calls Tryz.prog 103 #[.float .f64 b, .int .i64 0] W fun e W' => e = .returned (.bool (finf b)) ∧ W' = W := by
  go_enter Tryz.func103, Tryz.ntmps103
  go_wp2_with (go_at_call 137; refine (abs_any _ b).mono ?_; rintro e w' ⟨rfl, rfl⟩)
  go_ret
  exact ⟨rfl, rfl⟩
/-- Other than 0. -/
def fnz (b : Nat) : Bool := FloatKind.f64.format.order b 0 != some Ordering.eq
def fmay (b : Nat) : Bool := !fnan b && !finf b && (fnz b || !fsign b)
set_option maxRecDepth 10000 in
set_option maxHeartbeats 800000 in
theorem may_any (W : World) (b : Nat) : Calls Tryz.prog 67 #[.float .f64 b] W fun e W' => e = .returned (.bool (fmay b)) ∧ W' = W := by
  cases hn : fnan b
  · cases hi : finf b
    · cases hz : (FloatKind.f64.format.order b 0 != some Ordering.eq)
      all_goals
        go_enter Tryz.func67, Tryz.ntmps67
        go_wp2_with (first | (go_at_call 96; refine (isnan_any _ b).mono ?_; rintro e w' ⟨he, rfl⟩; rw [hn] at he; subst he) | (go_at_call 103; refine (isinf_any _ b).mono ?_; rintro e w' ⟨he, rfl⟩; rw [hi] at he; subst he) | (go_at_call 104; refine (signbit_any _ b).mono ?_; rintro e w' ⟨rfl, rfl⟩))
        go_ret
        exact ⟨by simp [fmay, fnz, hn, hi, hz], rfl⟩
    · go_enter Tryz.func67, Tryz.ntmps67
      go_wp2_with (first | (go_at_call 96; refine (isnan_any _ b).mono ?_; rintro e w' ⟨he, rfl⟩; rw [hn] at he; subst he) | (go_at_call 103; refine (isinf_any _ b).mono ?_; rintro e w' ⟨he, rfl⟩; rw [hi] at he; subst he) | (go_at_call 104; refine (signbit_any _ b).mono ?_; rintro e w' ⟨rfl, rfl⟩))
      go_ret
      exact ⟨by simp [fmay, hn, hi], rfl⟩
  · cases hi : finf b
    all_goals
      go_enter Tryz.func67, Tryz.ntmps67
      go_wp2_with (first | (go_at_call 96; refine (isnan_any _ b).mono ?_; rintro e w' ⟨he, rfl⟩; rw [hn] at he; subst he) | (go_at_call 103; refine (isinf_any _ b).mono ?_; rintro e w' ⟨he, rfl⟩; rw [hi] at he; subst he) | (go_at_call 104; refine (signbit_any _ b).mono ?_; rintro e w' ⟨rfl, rfl⟩))
      go_ret
      exact ⟨by simp [fmay, hn], rfl⟩
def normV (b : Nat) : Value := .tuple #[.float .f64 (bif fnz b && fmay b then b else 0), .bool (!fnz b || fmay b)]
set_option maxRecDepth 10000 in
set_option maxHeartbeats 800000 in
theorem norm_any (W : World) (b : Nat) : Calls Tryz.prog 84 #[.float .f64 b] W fun e W' => e = .returned (normV b) ∧ W' = W := by
  cases hz : (FloatKind.f64.format.order b 0 == some Ordering.eq)
  · have hz2 : fnz b = true := by simp [fnz, bne, hz]
    cases hm : fmay b
    all_goals
      go_enter Tryz.func84, Tryz.ntmps84
      go_wp2_with (go_at_call 67; refine (may_any _ b).mono ?_; rintro e w' ⟨he, rfl⟩; rw [hm] at he; subst he)
      go_ret2
      exact ⟨by simp [normV, hz2, hm], rfl⟩
  · have hz2 : fnz b = false := by simp [fnz, bne, hz]
    go_enter Tryz.func84, Tryz.ntmps84
    go_wp2
    go_ret2
    exact ⟨by simp [normV, hz2], rfl⟩
end Go.Proofs.YtcomibocajjhoaaGreatDoor
namespace Go.Proofs.YtcomibocajjhoaaGreatDoor
open Go.RowKit
set_option maxHeartbeats 400000 in
theorem copysign_neg0 (W : World) : Calls Tryz.prog 85 #[.float .f64 0, .float .f64 13830554455654793216] W fun e W' => e = .returned (.float .f64 9223372036854775808) ∧ W' = W := by
  have h1 := run_bits
  have h2 := run_frombits
  go_enter Tryz.func85, Tryz.ntmps85
  go_wp2
  go_ret
  exact ⟨rfl, rfl⟩
theorem norm_neg0 : normV 9223372036854775808 = .tuple #[.float .f64 0, .bool true] := by kernel_rfl
theorem may_nan : fmay 9221120237041090561 = false := by kernel_rfl
end Go.Proofs.YtcomibocajjhoaaGreatDoor
