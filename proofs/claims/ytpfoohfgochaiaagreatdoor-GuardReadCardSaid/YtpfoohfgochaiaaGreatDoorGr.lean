/- GuardRead: the closures, and Do over them. GuardRead: the walk of the law's body. -/
import Derived.Test.YtpfoohfgochaiaaGreatDoorGn
import Derived.Test.YtpfoohfgochaiaaGreatDoorGw
import Derived.Test.YtpfoohfgochaiaaGreatDoorQt
namespace Go.Proofs.YtpfoohfgochaiaaGreatDoor
open Go.RowKit
/-- What a reading that went well leaves: the reader behind it, what was got. -/
def GotPost (w : World) (B g p : Nat) (v : Value) (l : List UInt8) (n : Nat) (w' : World) : Prop :=
  ∃ v2 vb, RdAt w' B g v2 (l.drop n) ∧ v2.ownBlock = v.ownBlock ∧ Blk w' p 22 [vb] ∧ RowQ w' w.heap.size 5 1 vb n (Bs (l.take n)) ∧ Kept2 w w' g (some p)
theorem got_end {w w1 : World} {B g p n : Nat} {v v0 v2 vb : Value} {l : List UInt8} (hr : RdAt w1 B g v2 (l.drop n)) (ho : v2.ownBlock = v.ownBlock) (hk : Kept2 w w1 g none) (hb : RowQ w1 w.heap.size 5 1 vb n (Bs (l.take n)))
    (hp : Blk w p 22 [v0]) (hg : p ≠ g) : GotPost w B g p v l n (w1.setCell ⟨p, 0, none⟩ vb) := by
  have p1 := hp.kept' hk hg
  have e1 : v2.ownBlock ≠ some p := hr.2.1.ne_type p1 (by decide)
  have e2 : vb.ownBlock ≠ some p := hb.ne_type p1 (by decide)
  exact ⟨v2, vb, ⟨hr.1.far (p := ⟨p, 0, none⟩) (fun e => hg e.symm) _, hr.2.1.far (p := ⟨p, 0, none⟩) e1 _, hr.2.2⟩, ho, p1.setCell 0 _, hb.far (p := ⟨p, 0, none⟩) e2 _,
    ⟨hk.os, hk.tape, hk.output, by rw [show (w1.setCell ⟨p, 0, none⟩ vb).heap.size = w1.heap.size by simp [World.setCell]]; exact hk.size, fun k h1 h2 h3 => (heap_setCell_other w1 ⟨p, 0, none⟩ k vb (fun e => h3 (by rw [e]))).trans (hk.block k h1 h2 (fun e => by cases e))⟩⟩
theorem rowQ_one (W : World) (x : UInt8) : RowQ (W.alloc (.cells #[.int .u8 (ub x)] 5)) W.heap.size 5 1 (.slice (some ⟨W.heap.size, 0, none⟩) 1 1) 1 (Bs [x]) :=
  ⟨by simp [Bs], .inr ⟨W.heap.size, 0, 1, #[.int .u8 (ub x)], rfl, Nat.le_refl _, heap_alloc_new W _, Nat.le_refl _, by decide, by simp, by simp [Bs]⟩⟩
set_option maxHeartbeats 800000 in
theorem gr1_some (w : World) (B g p6 p : Nat) (A : Option Addr) (c : Nat) (b : UInt8) (bs : List UInt8) (v0 : Value) (h : RdAt w B g (.slice A (b :: bs).length c) (b :: bs)) (hl : (b :: bs).length ≤ 140737488355328)
    (h6 : Blk w p6 40 [.pointer (some ⟨g, 0, none⟩)]) (hp : Blk w p 22 [v0]) (hg : p ≠ g) :
    Calls Tryz.prog 35 #[.pointer (some ⟨p6, 0, none⟩), .pointer (some ⟨p, 0, none⟩)] w fun e w' => e = .returned (.tuple #[]) ∧ GotPost w B g p (.slice A (b :: bs).length c) (b :: bs) 1 w' := by
  have hc := byte_some w B g A c b bs h hl
  have x6 := h6.cell 0 _ rfl
  have HC := Lib.hid hc
  have HP := Lib.hid hp
  clear hc h h6 hp
  go_enter Tryz.func35, Tryz.ntmps35
  go_wp2_with (first
    | (go_at_call 36; refine HC.out.mono ?_; rintro e w1 ⟨rfl, v2, hr, hk, ho⟩; have y1 := ((HP.out.kept' hk hg).alloc (.cells #[.int .u8 (ub b)] 5)).cell 0 _ rfl; have f1 := ((HP.out.kept' hk hg).alloc (.cells #[.int .u8 (ub b)] 5)).frozen 0; have R1 := Lib.hid hr; have K1 := Lib.hid hk; have O1 := Lib.hid ho; clear hr hk ho))
  first | go_end0 | refine bodyPost_ret (results_none rfl _ _ _) rfl ?_
  refine ⟨rfl, ?_⟩
  exact got_end (l := b :: bs) (n := 1) ⟨R1.out.1.alloc _, R1.out.2.1.alloc _, R1.out.2.2⟩ O1.out (K1.out.below ((Below.refl _ _).alloc (Nat.le_refl _) _)) ((rowQ_one w1 b).mono K1.out.size) HP.out hg
set_option maxHeartbeats 800000 in
theorem gr1_none (w : World) (g p6 p : Nat) (A : Option Addr) (c : Nat) (h : w.cell? ⟨g, 0, none⟩ = some (.slice A 0 c)) (h6 : w.cell? ⟨p6, 0, none⟩ = some (.pointer (some ⟨g, 0, none⟩))) :
    Calls Tryz.prog 35 #[.pointer (some ⟨p6, 0, none⟩), .pointer (some ⟨p, 0, none⟩)] w fun e w' => e = faultOf 2 ∧ w' = w := by
  go_enter Tryz.func35, Tryz.ntmps35
  go_wp2_with (first
    | (go_at_call 36; refine (byte_none w g A c h).mono ?_; rintro e w1 ⟨he, rfl⟩; unfold faultOf at he; subst he))
  exact ⟨rfl, rfl, rfl⟩
set_option maxHeartbeats 800000 in
theorem gr2_some (w : World) (B g p6 p9 p : Nat) (A : Option Addr) (c n : Nat) (l : List UInt8) (v0 : Value) (h : RdAt w B g (.slice A l.length c) l) (hl : l.length ≤ 140737488355328) (hn : n ≤ l.length)
    (h6 : Blk w p6 40 [.pointer (some ⟨g, 0, none⟩)]) (h9 : Blk w p9 3 [.int .i64 n]) (hp : Blk w p 22 [v0]) (hg : p ≠ g) :
    Calls Tryz.prog 37 #[.pointer (some ⟨p6, 0, none⟩), .pointer (some ⟨p9, 0, none⟩), .pointer (some ⟨p, 0, none⟩)] w fun e w' => e = .returned (.tuple #[]) ∧ GotPost w B g p (.slice A l.length c) l n w' := by
  have hc := bytes_any w B g A c n l h hn hl
  have x6 := h6.cell 0 _ rfl
  have x9 := h9.cell 0 _ rfl
  have HC := Lib.hid hc
  have HP := Lib.hid hp
  clear hc h h6 h9 hp
  go_enter Tryz.func37, Tryz.ntmps37
  go_wp2_with (first
    | (go_at_call 38; refine HC.out.mono ?_; rintro e w1 ⟨vb, v2, rfl, hb, hr, hk, ho⟩; obtain ⟨A1, c1, rfl, _, _⟩ := hb.shape; have y1 := (HP.out.kept' hk hg).cell 0 _ rfl; have f1 := (HP.out.kept' hk hg).frozen 0; have R1 := Lib.hid hr; have K1 := Lib.hid hk; have O1 := Lib.hid ho; have V1 := Lib.hid hb; clear hr hk ho hb))
  first | go_end0 | refine bodyPost_ret (results_none rfl _ _ _) rfl ?_
  exact ⟨rfl, got_end R1.out O1.out K1.out V1.out HP.out hg⟩
set_option maxHeartbeats 800000 in
theorem gr2_fault (w : World) (g p6 p9 p : Nat) (A : Option Addr) (m c : Nat) (n : Int) (e : Int) (h : w.cell? ⟨g, 0, none⟩ = some (.slice A m c)) (hm : m ≤ 140737488355328) (hn : (n < 0 ∧ e = 1) ∨ ((m : Int) < n ∧ e = 2)) (h6 : w.cell? ⟨p6, 0, none⟩ = some (.pointer (some ⟨g, 0, none⟩)))
    (h9 : w.cell? ⟨p9, 0, none⟩ = some (.int .i64 n)) :
    Calls Tryz.prog 37 #[.pointer (some ⟨p6, 0, none⟩), .pointer (some ⟨p9, 0, none⟩), .pointer (some ⟨p, 0, none⟩)] w fun e' w' => e' = faultOf e ∧ w' = w := by
  have hc : Calls Tryz.prog 38 #[.pointer (some ⟨g, 0, none⟩), .int .i64 n] w fun e' W' => e' = faultOf e ∧ W' = w := by
    rcases hn with ⟨h1, rfl⟩ | ⟨h1, rfl⟩
    · exact bytes_neg w g n h1
    · exact bytes_more w g A m c n h hm h1
  have HC := Lib.hid hc
  clear hc hn h hm
  go_enter Tryz.func37, Tryz.ntmps37
  go_wp2_with (first
    | (go_at_call 38; refine HC.out.mono ?_; rintro e w1 ⟨he, rfl⟩; unfold faultOf at he; subst he))
  exact ⟨rfl, rfl, rfl⟩
/-- Do over a reading that goes well. -/
theorem grDo_ok (w : World) (B g p : Nat) (v v0 : Value) (l : List UInt8) (n : Nat) (k : Nat) (cap : Array Value) (hr : RdAt w B g v l) (hp : Blk w p 22 [v0]) (hc : ∀ w, (callFunc k cap).run Tryz.prog w = .ok (.enter k cap) w)
    (hk : ∀ w1, Below w.heap.size w w1 → Calls Tryz.prog k cap w1 fun e w' => e = .returned (.tuple #[]) ∧ GotPost w1 B g p v l n w') :
    Calls Tryz.prog 29 #[.func (.func k) #[] cap] w fun e w' => e = .returned (.int .i64 0) ∧ GotPost w B g p v l n w' := by
  have h0 : Below w.heap.size w (w.alloc (.cells #[.int .i64 0] 34)) := (Below.refl _ _).alloc (Nat.le_refl _) _
  have lg := hr.1.lt
  have lp := hp.lt
  refine (do_ok w k cap (fun W2 => GotPost (w.alloc (.cells #[.int .i64 0] 34)) B g p v l n W2) hc ((hk _ h0).mono ?_)).mono ?_
  · rintro e w2 ⟨rfl, P⟩
    refine ⟨rfl, ?_, P⟩
    obtain ⟨v2, vb, _, _, _, _, hk2⟩ := P
    have hn := Blk.new w 34 [.int .i64 0]
    exact (hk2.block _ hn.lt (by omega) (fun e => by injection e; omega)).trans hn
  · rintro e w' ⟨rfl, w2, ⟨v2, vb, h1, h2, h3, h4, h5⟩, h6⟩
    have s5 := h5.size
    have s0 := hsz w (.cells #[.int .i64 0] 34)
    refine ⟨rfl, v2, vb, h1.kept h6 (by omega) ?_, h2, h3.kept' h6 (by omega), ?_, ?_⟩
    · rw [h2]; intro e; have := (hr.2.1.lt _ e).2; omega
    · exact (h4.mono (by omega)).of_block fun k hk => h6.block k (h4.lt k hk).2 (fun e => by have := (h4.lt k hk).1; omega) (fun e => by cases e)
    · exact ⟨h6.os.trans (h5.os.trans h0.os), h6.tape.trans (h5.tape.trans h0.tape), h6.output.trans (h5.output.trans h0.output), by have := h6.size; omega, fun k a b c => (h6.block k (by omega) (by omega) (fun e => by cases e)).trans ((h5.block k (by omega) b c).trans (h0.block k a))⟩
end Go.Proofs.YtpfoohfgochaiaaGreatDoor
namespace Go.Proofs.YtpfoohfgochaiaaGreatDoor
open Go.RowKit
/-- A cut of a row of bytes. -/
theorem run_cut8 (w : World) (A : Option Addr) (q c k r : Nat) (h1 : k ≤ r) (h2 : r ≤ c) :
    (Instr.sliceAt 22 (.slice A q c) (some (.int .i64 k)) (some (.int .i64 r)) none).run Tryz.prog w = .ok (.slice (if c = k then A else A.map (·.add k)) (r - k) (c - k)) w := by
  have e1 : (k : Int) ≤ (r : Int) := by omega
  have e2 : (r : Int) ≤ (c : Int) := by omega
  simp [Instr.sliceAt, Instr.slice, Instr.sliceBounds, Instr.sliceBound, go_sem, h1, h2]
section
variable {P : Program} {ops : Array Oper} {C : World → Prop} {a : Act}
theorem wpQuiet_slice {Q : Act → Prop} {o : Oper} {rest : List Oper} {a : Act} (hgd : Region.wanted o (yielded ops a.tmps) = true) (t : TypeId) (x : Operand) (lo hi mx : Option Operand) (ho : o.op = .slice t x lo hi mx) (v : Value)
    (h0 : ∀ w, C w → (Instr.sliceAt t (a.eval x) (lo.map a.eval) (hi.map a.eval) (mx.map a.eval)).run P w = .ok v w)
    (h : wpQuiet P ops C Q rest (a.put o.dst v)) : wpQuiet P ops C Q (o :: rest) a := by
  refine wpQuiet_val hgd v (fun w hw => ?_) h
  unfold execOp
  simp only [ho, Sem.run_bind, Sem.run_pure, Result.andThen_ok, h0 w hw]
end
/-- The text, and what of it was read. -/
def ReadIn (W : World) (bb hb p6 g : Nat) (A : Option Addr) (q c : Nat) (l : List UInt8) (k : Nat) (wr : World) : Prop :=
  RowQ wr bb 5 1 (.slice A q c) q (Bs l) ∧ Blk wr p6 40 [.pointer (some ⟨g, 0, none⟩)] ∧ (∃ v, RdAt wr hb g v (l.drop k)) ∧ Below W.heap.size W wr
theorem ReadIn.below {W : World} {bb hb p6 g : Nat} {A : Option Addr} {q c : Nat} {l : List UInt8} {k : Nat} {wr w : World} (h : ReadIn W bb hb p6 g A q c l k wr) (h1 : Below wr.heap.size wr w) : ReadIn W bb hb p6 g A q c l k w := by
  obtain ⟨hr, h6, ⟨v, hv⟩, hb'⟩ := h
  exact ⟨hr.below h1, h6.below h1, ⟨v, hv.1.below h1, hv.2.1.below h1, hv.2.2⟩, hb'.trans (h1.mono hb'.size)⟩
theorem ReadIn.got {W : World} {bb hb p6 g : Nat} {A : Option Addr} {q c : Nat} {l : List UInt8} {k m p : Nat} {v v0 : Value} {w w' : World} (h : ReadIn W bb hb p6 g A q c l k w) (hp : Blk w p 22 [v0]) (h6 : p6 ≠ g) (hW : W.heap.size ≤ hb) (hWp : W.heap.size ≤ p)
    (hb2 : RdAt w hb g v (l.drop k)) (hG : GotPost w hb g p v (l.drop k) m w') : ReadIn W bb hb p6 g A q c l (k + m) w' := by
  obtain ⟨hr, hp6, _, hb'⟩ := h
  obtain ⟨v2, vb, h1, h2, h3, h4, h5⟩ := hG
  rw [List.drop_drop] at h1
  have lw := hb2.2.2.2
  refine ⟨hr.of_block fun j hj => h5.block j (hr.lt j hj).2 ?_ ?_, ?_, ⟨v2, h1⟩, hb'.trans ⟨h5.os, h5.tape, h5.output, h5.size, fun j hj => h5.block j (Nat.lt_of_lt_of_le hj hb'.size) (by omega) (fun e => by injection e; omega)⟩⟩
  · intro e; subst e; exact hr.ne_type hb2.1 (by decide) hj
  · intro e; injection e with e; subst e; exact hr.ne_type hp (by decide) hj
  · refine (h5.block p6 hp6.lt h6 (fun e => ?_)).trans hp6
    injection e with e
    subst e
    have x1 : w.heap[p6]? = some (.cells #[.pointer (some ⟨g, 0, none⟩)] 40 (0, 0)) := hp6
    have x2 : w.heap[p6]? = some (.cells #[v0] 22 (0, 0)) := hp
    rw [x1] at x2
    injection x2 with x2
    injection x2 with _ x2
    exact absurd x2 (by decide)
set_option maxRecDepth 20000 in
set_option maxHeartbeats 8000000 in
theorem guardRead_any (W : World) (A : Option Addr) (n c : Nat) (bs : List UInt8) (hs : Src W 1 A n (Bs bs)) (hc : n ≤ c) (hm : c ≤ maxLen)
    (B : Option Addr) (n2 c2 : Nat) (zs : List Int) (hz : Src W 1 B n2 (zs.map (Value.int .i64))) (hc2 : n2 ≤ c2) (hzl : zs.length = n2) (hG : Gl W) :
    Calls Tryz.prog 6 #[.slice A n c, .slice B n2 c2] W fun e W' => e = .returned (.bool true) ∧ Below W.heap.size W W' := by
  have hmf : ∀ (fn : Fn) (first cap : Array Value) (w : World), (Instr.makeFunc fn first cap).run Tryz.prog w = .ok (.func fn first cap) w := fun _ _ _ _ => rfl
  have hbe := begun_any W hG
  have HB := Lib.hid hbe
  obtain ⟨q, hq⟩ : ∃ q : Nat, q = min n 60 := ⟨_, rfl⟩
  have hmin : min (n : Int) 60 = (q : Int) := by omega
  have hqc : (q : Int) ≤ (c : Int) := by omega
  have SQ := Lib.hid (hs.take q (by omega))
  have HC := Lib.hid hc
  have HM := Lib.hid hm
  have HQ := Lib.hid hq
  have ZZ := Lib.hid hz
  have ZL := Lib.hid hzl
  have ZC := Lib.hid hc2
  obtain ⟨l, hl⟩ : ∃ l, l = bs.take q := ⟨_, rfl⟩
  have hbt : (Bs bs).take q = Bs l := by rw [hl]; simp [Bs]
  clear hbe hG hs hc hm hq hl hz hzl hc2
  go_enter Tryz.func6, Tryz.ntmps6
  go_upto_region 4 with (first
      | (go_at_call 23; refine HB.out.mono ?_; rintro e w1 ⟨rfl, hb⟩; have L1 := Lib.hid hb; clear hb))
  go_upto_region 6 with (first
    | (at_builtin; refine wpl_append rfl (.const (.slice none 0 0)) (.tmp 20) 22 rfl w1.heap.size 5 (.int .u8 0) 1 1 Tryz.underlying22 Tryz.info5 rfl (by decide) (.slice none 0 0) 0 [] rfl (RowQ.nil _ _ _ _) A q c ((Bs bs).take q) rfl (src_below SQ.out L1.out) (by have := HQ.out; omega) (by have := HQ.out; omega) (Nat.le_refl _) ?_; intro v1 w2 hr1 hg1 _; rw [Nat.zero_add, List.nil_append, hbt] at hr1; obtain ⟨A1, c1, rfl, _, _⟩ := hr1.shape; have R1 := Lib.hid hr1; have L2 : Hid (Below W.heap.size W w2) := L1.out.grown hg1 L1.out.size (by intro k hk; simp [Value.ownBlock] at hk); clear hr1 hg1)
    | (go_at_call 34; refine (gnew_row w2 w1.heap.size A1 q c1 l R1.out (by have := HQ.out; omega)).mono ?_; rintro e w3 ⟨g, v3, rfl, hg3, hrd, hb⟩; have B3 := Lib.hid hb; have G3 := Lib.hid hg3; have D3 := Lib.hid hrd; clear hb hg3 hrd))
  have hlen : l.length = q := by have := R1.out.1; simpa using this
  have hq60 : q ≤ 60 := by have := HQ.out; omega
  have gp : g ≠ w3.heap.size := by have := D3.out.1.lt; omega
  obtain ⟨p6, hp6⟩ : ∃ p6, p6 = w3.heap.size := ⟨_, rfl⟩
  have A0 : ReadIn W w1.heap.size w2.heap.size p6 g A1 q c1 l 0 (w3.alloc (.cells #[.pointer (some ⟨g, 0, none⟩)] 40)) := by
    rw [hp6]
    exact ⟨(R1.out.below B3.out).alloc _, Blk.new w3 40 [_], ⟨v3, D3.out.1.alloc _, D3.out.2.1.alloc _, D3.out.2.2⟩, (L2.out.trans (B3.out.mono L2.out.size)).alloc (by have := L2.out.size; have := B3.out.size; omega) _⟩
  rw [← hp6]
  rw [← hp6] at gp
  generalize w3.alloc (.cells #[.pointer (some ⟨g, 0, none⟩)] 40) = w4 at A0 ⊢
  have AA := Lib.hid A0
  have HL := Lib.hid hlen
  have HQ6 := Lib.hid hq60
  have hq1 : (q : Int) ≤ (c1 : Int) := by obtain ⟨A9, c9, e, h9, _⟩ := R1.out.shape; injection e with _ _ e; omega
  have LW := Lib.hid L2.out.size
  have GP := Lib.hid gp
  clear A0 hlen hq60 hqc D3 G3 B3 R1 L2 hp6 gp
  go_wp2
  go_loopw [7, 8] (fun a i wr => ∃ k j : Nat, k ≤ q ∧ a = .int .i64 k ∧ j ≤ n2 ∧ j ≤ 40 ∧ i = .int .i64 j ∧ ReadIn W w1.heap.size w2.heap.size p6 g A1 q c1 l k wr) (fun _ i _ => 40 - (intOf i).toNat)
  case atStart => exact ⟨0, 0, by omega, rfl, by omega, by omega, rfl, AA.out⟩
  case round =>
    obtain ⟨k, j, hk, rfl, hj, hj6, rfl, hA⟩ := hrel
    clear AA
    have hq3 := HQ6.out
    have hkq : (k : Int) ≤ (q : Int) := by omega
    by_cases hlt : j < n2 ∧ j < 40
    · obtain ⟨j1, j2⟩ := hlt
      obtain ⟨ad, hBB, hcs⟩ := (src_below ZZ.out hA.2.2.2).2.1 (by omega)
      subst hBB
      have hcell : wr.cell? (ad.add j) = some (.int .i64 (zs.getD j 0)) := hcs j _ (by simp [List.getD_eq_getElem?_getD, show j < zs.length by rw [ZL.out]; exact j1])
      generalize zs.getD j 0 = z at hcell
      have l1 : (j : Int) < (n2 : Int) := by omega
      have l2 : (j : Int) < 40 := by omega
      have l3 : (n2 : Int) ≤ (c2 : Int) := by have := ZC.out; omega
      have AK := Lib.hid hA
      clear hA hcs
      go_upto_region 13 with fail
      obtain ⟨p9, hp9⟩ : ∃ p9, p9 = wr.heap.size := ⟨_, rfl⟩
      have hA7 : ReadIn W w1.heap.size w2.heap.size p6 g A1 q c1 l k ((wr.alloc (.cells #[.int .i64 z] 3)).alloc (.cells #[.slice none 0 0] 22)) :=
        (AK.out.below ((Below.refl _ _).alloc (Nat.le_refl _) _)).below ((Below.refl _ _).alloc (Nat.le_refl _) _)
      have h9 : Blk ((wr.alloc (.cells #[.int .i64 z] 3)).alloc (.cells #[.slice none 0 0] 22)) p9 3 [.int .i64 z] := by
        rw [hp9]; exact (Blk.new wr _ [_]).alloc _
      have h10 : Blk ((wr.alloc (.cells #[.int .i64 z] 3)).alloc (.cells #[.slice none 0 0] 22)) (p9 + 1) 22 [.slice none 0 0] := by
        have := Blk.new (wr.alloc (.cells #[.int .i64 z] 3)) 22 [.slice none 0 0]
        rwa [hsz, ← hp9] at this
      have hg9 : g < p9 := by
        rw [hp9]
        obtain ⟨v, hv⟩ := AK.out.2.2.1
        exact hv.1.lt
      have h69 : p6 < p9 := by rw [hp9]; exact AK.out.2.1.lt
      have hW9 : W.heap.size ≤ p9 := by rw [hp9]; exact AK.out.2.2.2.size
      rw [← hp9]
      clear hcell AK hp9
      generalize (wr.alloc (.cells #[.int .i64 z] 3)).alloc (.cells #[.slice none 0 0] 22) = w7 at hA7 h9 h10 ⊢
      obtain ⟨v, hv⟩ := hA7.2.2.1
      have hdl : (l.drop k).length = q - k := by rw [List.length_drop, HL.out]
      have hdm : (l.drop k).length ≤ 140737488355328 := by omega
      have hvs := hv.2.1
      obtain ⟨A7, c7, rfl, hc7, hm7⟩ := hvs.shape
      clear hvs
      by_cases hz0 : 0 ≤ z ∧ z ≤ ((q - k : Nat) : Int)
      · obtain ⟨z0, z1⟩ := hz0
        obtain ⟨m, rfl⟩ : ∃ m : Nat, z = (m : Int) := ⟨z.toNat, by omega⟩
        have hml : m ≤ (l.drop k).length := by omega
        obtain ⟨f, cap, hfc, hDo⟩ : ∃ f cap, (bif decide (m = 1) then (35, #[.pointer (some ⟨p6, 0, none⟩), .pointer (some ⟨p9 + 1, 0, none⟩)]) else (37, #[.pointer (some ⟨p6, 0, none⟩), .pointer (some ⟨p9, 0, none⟩), .pointer (some ⟨p9 + 1, 0, none⟩)])) = ((f, cap) : Nat × Array Value) ∧
            Calls Tryz.prog 29 #[.func (.func f) #[] cap] w7 fun e w' => e = .returned (.int .i64 0) ∧ ∃ Aq cq, Blk w' (p9 + 1) 22 [.slice Aq m cq] ∧ m ≤ cq ∧ Src w' 1 Aq m (Bs ((l.drop k).take m)) ∧ ReadIn W w1.heap.size w2.heap.size p6 g A1 q c1 l (k + m) w' ∧ Blk w' p9 3 [.int .i64 m] := by
          have hend : ∀ w', GotPost w7 w2.heap.size g (p9 + 1) (.slice A7 (l.drop k).length c7) (l.drop k) m w' → ∃ Aq cq, Blk w' (p9 + 1) 22 [.slice Aq m cq] ∧ m ≤ cq ∧ Src w' 1 Aq m (Bs ((l.drop k).take m)) ∧ ReadIn W w1.heap.size w2.heap.size p6 g A1 q c1 l (k + m) w' ∧ Blk w' p9 3 [.int .i64 m] := fun w' P => by
            have P2 := hA7.got h10 (fun e => GP.out e.symm) LW.out (by omega) hv P
            obtain ⟨v2, vb, h1, h2, h3, h4, h5⟩ := P
            obtain ⟨Aq, cq, rfl, hcq, _⟩ := h4.shape
            exact ⟨Aq, cq, h3, hcq, h4.src (Bs_one _), P2, (h5.block p9 h9.lt (by omega) (fun e => by injection e; omega)).trans h9⟩
          by_cases h1 : m = 1
          · subst h1
            refine ⟨_, _, rfl, (grDo_ok w7 w2.heap.size g (p9 + 1) _ _ _ 1 35 _ hv h10 (fun w => by kernel_rfl) fun w8 hb8 => ?_).mono fun e w' ⟨he, P⟩ => ⟨he, hend w' P⟩⟩
            obtain ⟨b, rest, hbr⟩ : ∃ b rest, l.drop k = b :: rest := by
              cases h : l.drop k with
              | nil => rw [h] at hml; simp at hml
              | cons b r => exact ⟨b, r, rfl⟩
            have hv8 : RdAt w8 w2.heap.size g (.slice A7 (l.drop k).length c7) (l.drop k) := ⟨hv.1.below hb8, hv.2.1.below hb8, hv.2.2⟩
            rw [hbr] at hv8 hdm ⊢
            exact gr1_some w8 w2.heap.size g p6 (p9 + 1) A7 c7 b rest _ hv8 hdm (hA7.2.1.below hb8) (h10.below hb8) (by omega)
          · rw [show decide (m = 1) = false from decide_eq_false h1]
            refine ⟨_, _, rfl, (grDo_ok w7 w2.heap.size g (p9 + 1) _ _ _ m 37 _ hv h10 (fun w => by kernel_rfl) fun w8 hb8 => ?_).mono fun e w' ⟨he, P⟩ => ⟨he, hend w' P⟩⟩
            exact gr2_some w8 w2.heap.size g p6 p9 (p9 + 1) A7 c7 m _ _ ⟨hv.1.below hb8, hv.2.1.below hb8, hv.2.2⟩ hdm hml (hA7.2.1.below hb8) (h9.below hb8) (h10.below hb8) (by omega)
        have x9 := h9.cell 0 _ rfl
        have DO := Lib.hid hDo
        have km : (k : Int) + (m : Int) ≤ (q : Int) := by omega
        clear hDo hv hA7 h9 h10 hdl hdm hml z0 z1
        have hOr : (((m : Int) == 1) = true ∧ f = 35 ∧ cap = #[.pointer (some ⟨p6, 0, none⟩), .pointer (some ⟨p9 + 1, 0, none⟩)]) ∨ (((m : Int) == 1) = false ∧ f = 37 ∧ cap = #[.pointer (some ⟨p6, 0, none⟩), .pointer (some ⟨p9, 0, none⟩), .pointer (some ⟨p9 + 1, 0, none⟩)]) := by
          by_cases h1 : m = 1
          · rw [show decide (m = 1) = true from decide_eq_true h1] at hfc
            injection hfc with f1 f2
            exact .inl ⟨by rw [beq_iff_eq]; omega, f1.symm, f2.symm⟩
          · rw [show decide (m = 1) = false from decide_eq_false h1] at hfc
            injection hfc with f1 f2
            exact .inr ⟨by rw [beq_eq_false_iff_ne]; omega, f1.symm, f2.symm⟩
        clear hfc
        have km2 : (m : Int) ≤ (q : Int) - (k : Int) := by omega
        have k4 : (k : Int) + (m : Int) ≤ (c1 : Int) := by omega
        have m0 : (0 : Int) ≤ (m : Int) := by omega
        obtain ⟨r, hr⟩ : ∃ r : Nat, r = k + m := ⟨_, rfl⟩
        rw [← hr] at DO
        have hwr : IntKind.i64.wrap ((k : Int) + (m : Int)) = (r : Int) := by rw [show (k : Int) + (m : Int) = (r : Int) by omega]; exact IntWalk.i64_in _ (by omega)
        have r2 : k ≤ r := by omega
        have r3 : r ≤ c1 := by omega
        have r4 : r - k = m := by omega
        have HR := Lib.hid hr
        clear hr
        have HKR := Lib.hid (show k + m ≤ q by omega)
        have HK := Lib.hid hk
        rcases hOr with ⟨d1, rfl, rfl⟩ | ⟨d1, rfl, rfl⟩
        all_goals
          go_upto_region 16 with (first
            | (go_at_call 29; refine DO.out.mono ?_; rintro e w8 ⟨rfl, Aq, cq, y10, hcq, hsrc, hR8, y9⟩; have Y10 := Lib.hid y10; have SR := Lib.hid hsrc; have RR := Lib.hid hR8; have Y9 := Lib.hid y9; clear y10 hsrc hR8 y9))
          have y9 := Y9.out.cell 0 _ rfl
          have y10 := Y10.out.cell 0 _ rfl
          have y6 := RR.out.2.1.cell 0 _ rfl
          clear x9 d1
          go_upto_region 21 with fail
          have hcv1 : ∀ N, (convert 22 9 (.slice Aq m cq)).run Tryz.prog (w8.drewN N) = .ok (.string ⟨((l.drop k).take m).toArray⟩) (w8.drewN N) := fun N => run_str _ _ _ _ _ SR.out
          obtain ⟨A9, hA9⟩ : ∃ A9 : Option Addr, A9 = (if c1 = k then A1 else A1.map (·.add k)) := ⟨_, rfl⟩
          have hcv2 : ∀ N, (convert 22 9 (.slice A9 m (c1 - k))).run Tryz.prog (w8.drewN N) = .ok (.string ⟨((l.drop k).take m).toArray⟩) (w8.drewN N) := fun N => run_str _ _ _ _ _ (by rw [hA9]; exact RR.out.1.mid k m HKR.out)
          have hcut := fun w => run_cut8 w A1 q c1 k r r2 r3
          rw [← hA9, r4] at hcut
          clear hA9
          refine wp_region_quiet_lit (by kernel_rfl) (by kernel_rfl) ?_
          iterate 14 (go_big_quiet_step (fail))
          refine wpQuiet_slice (by rfl) 22 (.tmp 63) (some (.tmp 64)) (some (.tmp 67)) none rfl _ (fun w _ => hcut w) ?_
          quiet_step (fail)
          repeat (go_big_quiet_step (fail))
          refine wpQuiet_nil ?_
          rintro _ ⟨nq, rfl⟩
          have R9 := Lib.hid (RR.out.below (below_drewN' (Below.refl _ w8) nq))
          have y9' := (Y9.out.drewN nq).cell 0 _ rfl
          have y6' := R9.out.2.1.cell 0 _ rfl
          obtain ⟨v8, hv8⟩ := R9.out.2.2.1
          have hvs := hv8.2.1
          obtain ⟨A8, c8, rfl, hc8, hm8⟩ := hvs.shape
          obtain ⟨s, hs⟩ : ∃ s : Nat, s = (l.drop r).length := ⟨_, rfl⟩
          have hs2 : (q : Int) - (r : Int) = (s : Int) := by rw [hs, List.length_drop, HL.out]; have := HKR.out; have := HR.out; omega
          have x8 := hv8.1.cell 0 _ rfl
          rw [← hs] at x8
          clear hs hcv1 hcv2 hcut y9 y10 y6 hvs hv8 RR Y9 Y10 SR r4 hc8 hm8 HK
          have r5 : (r : Int) ≤ (q : Int) := by have := HKR.out; have := HR.out; omega
          generalize w8.drewN nq = w9 at *
          go_wp2_with (first
            | (go_at_call 39; refine (left_any _ g A8 s c8 x8 (by omega)).mono ?_; rintro e w' ⟨rfl, hw⟩; replace hw := hw.symm; subst hw))
          exact ⟨⟨r, j + 1, by omega, rfl, by omega, by omega, by go_num, R9.out⟩, by simp [intOf]; omega⟩
      · obtain ⟨e0, he0⟩ : ∃ e0 : Int, (z < 0 ∧ e0 = 1) ∨ (((l.drop k).length : Int) < z ∧ e0 = 2) := by
          by_cases h : z < 0
          · exact ⟨1, .inl ⟨h, rfl⟩⟩
          · exact ⟨2, .inr ⟨by omega, rfl⟩⟩
        obtain ⟨f, cap, hfc, hDo⟩ : ∃ f cap, (bif decide (z = 1) then (35, #[.pointer (some ⟨p6, 0, none⟩), .pointer (some ⟨p9 + 1, 0, none⟩)]) else (37, #[.pointer (some ⟨p6, 0, none⟩), .pointer (some ⟨p9, 0, none⟩), .pointer (some ⟨p9 + 1, 0, none⟩)])) = ((f, cap) : Nat × Array Value) ∧
            Calls Tryz.prog 29 #[.func (.func f) #[] cap] w7 fun e w' => e = .returned (.int .i64 e0) ∧ Below w7.heap.size w7 w' := by
          by_cases h1 : z = 1
          · rw [show decide (z = 1) = true from decide_eq_true h1]
            refine ⟨_, _, rfl, do_same w7 35 _ e0 (fun w => by kernel_rfl) fun w8 hb8 => ?_⟩
            have he2 : e0 = 2 := by omega
            have hl0 : (l.drop k).length = 0 := by omega
            have x8 := (hv.1.below hb8).cell 0 _ rfl
            rw [hl0] at x8
            rw [he2]
            exact gr1_none w8 g p6 (p9 + 1) A7 c7 x8 ((hA7.2.1.below hb8).cell 0 _ rfl)
          · rw [show decide (z = 1) = false from decide_eq_false h1]
            exact ⟨_, _, rfl, do_same w7 37 _ e0 (fun w => by kernel_rfl) fun w8 hb8 => gr2_fault w8 g p6 p9 (p9 + 1) A7 _ c7 z e0 ((hv.1.below hb8).cell 0 _ rfl) hdm he0 ((hA7.2.1.below hb8).cell 0 _ rfl) ((h9.below hb8).cell 0 _ rfl)⟩
        have x9 := h9.cell 0 _ rfl
        have DO := Lib.hid hDo
        have H9 := Lib.hid h9
        have A7H := Lib.hid hA7
        have hOr : ((z == 1) = true ∧ f = 35 ∧ cap = #[.pointer (some ⟨p6, 0, none⟩), .pointer (some ⟨p9 + 1, 0, none⟩)]) ∨ ((z == 1) = false ∧ f = 37 ∧ cap = #[.pointer (some ⟨p6, 0, none⟩), .pointer (some ⟨p9, 0, none⟩), .pointer (some ⟨p9 + 1, 0, none⟩)]) := by
          by_cases h1 : z = 1
          · rw [show decide (z = 1) = true from decide_eq_true h1] at hfc
            injection hfc with f1 f2
            exact .inl ⟨by rw [beq_iff_eq]; omega, f1.symm, f2.symm⟩
          · rw [show decide (z = 1) = false from decide_eq_false h1] at hfc
            injection hfc with f1 f2
            exact .inr ⟨by rw [beq_eq_false_iff_ne]; omega, f1.symm, f2.symm⟩
        have hcs : (z < 0 ∧ e0 = 1) ∨ (¬ z < 0 ∧ (q : Int) - (k : Int) < z ∧ e0 = 2) := by omega
        clear hfc hDo hv hA7 h9 hdl hdm hz0 he0 h10
        rcases hcs with ⟨z0, rfl⟩ | ⟨z0, z1, rfl⟩ <;> rcases hOr with ⟨d1, rfl, rfl⟩ | ⟨d1, rfl, rfl⟩
        all_goals
          go_upto_region 16 with (first
            | (go_at_call 29; refine DO.out.mono ?_; rintro e w8 ⟨rfl, hb8⟩; have RR := Lib.hid (A7H.out.below hb8); have Y9 := Lib.hid (H9.out.below hb8); clear hb8))
          have y9 := Y9.out.cell 0 _ rfl
          clear x9 d1
          go_upto_region 21 with fail
          go_quiet (fail)
          have R9 := Lib.hid (RR.out.below (below_drewN' (Below.refl _ w8) nq))
          have y6' := R9.out.2.1.cell 0 _ rfl
          obtain ⟨v8, hv8⟩ := R9.out.2.2.1
          have hvs := hv8.2.1
          obtain ⟨A8, c8, rfl, hc8, hm8⟩ := hvs.shape
          obtain ⟨s, hs⟩ : ∃ s : Nat, s = (l.drop k).length := ⟨_, rfl⟩
          have hs2 : (q : Int) - (k : Int) = (s : Int) := by rw [hs, List.length_drop, HL.out]; omega
          have x8 := hv8.1.cell 0 _ rfl
          rw [← hs] at x8
          clear hs y9 hvs hv8 RR Y9 hc8 hm8
          generalize w8.drewN nq = w9 at *
          go_wp2_with (first
            | (go_at_call 39; refine (left_any _ g A8 s c8 x8 (by omega)).mono ?_; rintro e w' ⟨rfl, hw⟩; replace hw := hw.symm; subst hw))
          exact ⟨⟨k, j + 1, hk, rfl, by omega, by omega, by go_num, R9.out⟩, by simp [intOf]; omega⟩
    · have hg : ((j : Int) < (n2 : Int) ∧ j = 40) ∨ j = n2 := by omega
      have AK := Lib.hid hA
      clear hlt ZZ hA
      rcases hg with ⟨h1, rfl⟩ | rfl
      all_goals
        go_wp2
        go_ret
        exact ⟨rfl, AK.out.2.2.2⟩
end Go.Proofs.YtpfoohfgochaiaaGreatDoor
