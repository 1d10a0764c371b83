/- sha.mixed: one block more. -/
import Derived.Test.YtmnndehoopmmaaaGreatDoorSb
namespace Go.Proofs.YtmnndehoopmmaaaGreatDoor
open Go.RowKit
attribute [local go_sem] un_add un_shl8 un_of_byte un_addm un_and un_or un_xor un_not un_not' un_shl8m un_shr3 un_shr10 ub_mod un_mod
theorem hsz (w : World) (o : Obj) : (w.alloc o).heap.size = w.heap.size + 1 := by simp
/-- What is boxed, and what is handed back, in a world. -/
def Mx0 (w W : World) (l r : List (BitVec 32)) : Prop := Below w.heap.size w W ∧ Blk W w.heap.size 96 (Us l) ∧ Blk W (w.heap.size + 1) 96 (Us r)
theorem Mx0.new (w : World) (l : List (BitVec 32)) : Mx0 w ((w.alloc (.cells (Us l).toArray 96)).alloc (.cells zero8.toArray 96)) l (List.replicate 8 0) := by
  refine ⟨((Below.refl _ _).alloc (Nat.le_refl _) _).alloc (by simp) _, (Blk.new w _ _).alloc _, ?_⟩
  have := Blk.new (w.alloc (.cells (Us l).toArray 96)) 96 zero8
  rwa [hsz] at this
theorem Mx0.lt {w W : World} {l r : List (BitVec 32)} (h : Mx0 w W l r) : w.heap.size + 2 ≤ W.heap.size := by have := h.2.2.lt; omega
theorem Mx0.below {w W W1 : World} {l r : List (BitVec 32)} (h : Mx0 w W l r) (hb : Below W.heap.size W W1) : Mx0 w W1 l r :=
  ⟨h.1.trans (hb.mono (by have := h.lt; omega)), h.2.1.below hb, h.2.2.below hb⟩
theorem z8_eq : (Obj.cells #[.int .u32 0, .int .u32 0, .int .u32 0, .int .u32 0, .int .u32 0, .int .u32 0, .int .u32 0, .int .u32 0] 96 : Obj) = .cells zero8.toArray 96 := rfl
theorem z64_eq : (Obj.cells #[.int .u32 0, .int .u32 0, .int .u32 0, .int .u32 0, .int .u32 0, .int .u32 0, .int .u32 0, .int .u32 0, .int .u32 0, .int .u32 0, .int .u32 0, .int .u32 0, .int .u32 0, .int .u32 0, .int .u32 0, .int .u32 0, .int .u32 0, .int .u32 0, .int .u32 0, .int .u32 0, .int .u32 0, .int .u32 0, .int .u32 0, .int .u32 0, .int .u32 0, .int .u32 0, .int .u32 0, .int .u32 0, .int .u32 0, .int .u32 0, .int .u32 0, .int .u32 0, .int .u32 0, .int .u32 0, .int .u32 0, .int .u32 0, .int .u32 0, .int .u32 0, .int .u32 0, .int .u32 0, .int .u32 0, .int .u32 0, .int .u32 0, .int .u32 0, .int .u32 0, .int .u32 0, .int .u32 0, .int .u32 0, .int .u32 0, .int .u32 0, .int .u32 0, .int .u32 0, .int .u32 0, .int .u32 0, .int .u32 0, .int .u32 0, .int .u32 0, .int .u32 0, .int .u32 0, .int .u32 0, .int .u32 0, .int .u32 0, .int .u32 0, .int .u32 0] 130 : Obj) = .cells zero64.toArray 130 := rfl
theorem Mx0.alloc {w W : World} {l r : List (BitVec 32)} (h : Mx0 w W l r) (o : Obj) : Mx0 w (W.alloc o) l r :=
  ⟨h.1.alloc (by have := h.lt; omega) o, h.2.1.alloc o, h.2.2.alloc o⟩
theorem Mx0.setRow {w W : World} {l r : List (BitVec 32)} (h : Mx0 w W l r) {g : Nat} (hg : w.heap.size + 2 ≤ g) (cs : Array Value) : Mx0 w (W.setRow g cs) l r :=
  ⟨below_setRow' h.1 (by omega) cs, h.2.1.rowFar (by omega) cs, h.2.2.rowFar (by omega) cs⟩
theorem Mx0.drewN {w W : World} {l r : List (BitVec 32)} (h : Mx0 w W l r) (n : Nat) : Mx0 w (W.drewN n) l r := ⟨below_drewN h.1 n, h.2.1, h.2.2⟩
/-- The words of the block, and what is added. -/
def Mx1 (w W : World) (p : Nat) (l ws : List (BitVec 32)) : Prop :=
  Mx0 w W l (List.replicate 8 0) ∧ w.heap.size + 2 ≤ p ∧ Blk W p 130 (Us ws) ∧ Blk W (p + 1) 130 (Us ks)
theorem Mx1.new {w w2 : World} {l : List (BitVec 32)} (h : Mx0 w w2 l (List.replicate 8 0)) (ws : List (BitVec 32)) :
    Mx1 w ((((w2.alloc (.cells zero64.toArray 130)).alloc (.cells zero64.toArray 130)).setRow w2.heap.size (Us ws).toArray).setRow (w2.heap.size + 1) (Us ks).toArray) w2.heap.size l ws ∧
    ((((w2.alloc (.cells zero64.toArray 130)).alloc (.cells zero64.toArray 130)).setRow w2.heap.size (Us ws).toArray).setRow (w2.heap.size + 1) (Us ks).toArray).heap.size = w2.heap.size + 2 := by
  have hl := h.lt
  have n1 := (Blk.new w2 130 zero64).alloc (.cells zero64.toArray 130)
  have n0 := Blk.new (w2.alloc (.cells zero64.toArray 130)) 130 zero64
  rw [hsz] at n0
  refine ⟨⟨(((h.alloc _).alloc _).setRow hl _).setRow (by omega) _, hl, (n1.row _).rowFar (by omega) _, (n0.rowFar (by omega) _).row _⟩, by simp⟩
/-- .. and the eight words. -/
def Mx (w W : World) (p : Nat) (l ws v : List (BitVec 32)) : Prop := Mx1 w W p l ws ∧ Blk W (p + 2) 96 (Us v)
theorem Mx.new {w W : World} {p : Nat} {l ws : List (BitVec 32)} (h : Mx1 w W p l ws) (hs : W.heap.size = p + 2) (v : List (BitVec 32)) :
    Mx w ((W.alloc (.cells zero8.toArray 96)).setRow (p + 2) (Us v).toArray) p l ws v := by
  obtain ⟨h0, hp, h1, h2⟩ := h
  have n := Blk.new W 96 zero8
  rw [hs] at n
  exact ⟨⟨(h0.alloc _).setRow (by omega) _, hp, (h1.alloc _).rowFar (by omega) _, (h2.alloc _).rowFar (by omega) _⟩, n.row _⟩
theorem Mx.drewN {w W : World} {p : Nat} {l ws v : List (BitVec 32)} (h : Mx w W p l ws v) (n : Nat) : Mx w (W.drewN n) p l ws v := ⟨⟨h.1.1.drewN n, h.1.2.1, h.1.2.2.1, h.1.2.2.2⟩, h.2⟩
theorem Mx.put {w W : World} {p : Nat} {l ws v : List (BitVec 32)} (h : Mx w W p l ws v) (v' : List (BitVec 32)) : Mx w (W.setRow (p + 2) (Us v').toArray) p l ws v' := by
  obtain ⟨⟨h0, hp, h1, h2⟩, h3⟩ := h
  exact ⟨⟨h0.setRow (by omega) _, hp, h1.rowFar (by omega) _, h2.rowFar (by omega) _⟩, h3.row _⟩
theorem Mx.box {w W : World} {p : Nat} {l ws v : List (BitVec 32)} (h : Mx w W p l ws v) (k : Nat) (x : BitVec 32) : Mx w (W.setCell ⟨w.heap.size, k, none⟩ (.int .u32 (un x))) p (l.set k x) ws v := by
  obtain ⟨⟨⟨h0, hl, hr⟩, hp, h1, h2⟩, h3⟩ := h
  exact ⟨⟨⟨h0.setCell (Nat.le_refl _) _, by rw [← Us_set]; exact hl.setCell k _, hr.far (by simp) _⟩, hp, h1.far (by simp; omega) _, h2.far (by simp; omega) _⟩, h3.far (by simp; omega) _⟩
set_option maxRecDepth 100000 in
set_option maxHeartbeats 1000000 in
theorem mixed_any (s : St) (g o c : Nat) (bs : List UInt8) (w : World) (hc : 64 ≤ c) (hm : c ≤ 9223372036854775807) (hg : g < w.heap.size) (hb : BytesAt w g o 64 bs) :
    Calls Tryz.prog 84 #[.agg (Us s.list).toArray, .slice (some ⟨g, o, none⟩) 64 c] w fun e w' => e = .returned (.agg (Us (mix s bs).list).toArray) ∧ Below w.heap.size w w' := by
  have M0 := Lib.hid (Mx0.new w s.list)
  have B0 := Lib.hid (hb.of_block (w1 := (w.alloc (.cells (Us s.list).toArray 96)).alloc (.cells zero8.toArray 96)) ((Mx0.new w s.list).1.block g hg))
  clear hb
  have z8 := z8_eq
  have z64 := z64_eq
  go_enter Tryz.func84, Tryz.ntmps84
  go_wp2_with fail
  have hg' : g < ((w.alloc (.cells (Us s.list).toArray 96)).alloc (.cells zero8.toArray 96)).heap.size := by rw [hsz, hsz]; omega
  refine (schedule_any g o c bs _ hc hm hg' B0.out).mono ?_
  rintro e w1 ⟨rfl, hb1⟩
  have M1 := Lib.hid (M0.out.below hb1)
  clear hb1 M0 B0 hg'
  go_wp2_with fail
  refine (consts_any _).mono ?_
  rintro e w2 ⟨rfl, hb2⟩
  have M2 := Lib.hid (M1.out.below hb2)
  clear hb2 M1
  have N0 := Lib.hid (Blk.new (w2.alloc (.cells zero64.toArray 130)) 130 zero64)
  have N1 := Lib.hid ((Blk.new w2 130 zero64).alloc (.cells zero64.toArray 130))
  have M3 := Mx1.new M2.out (wl bs 64)
  have M3' := Lib.hid M3
  clear M3 M2
  rw [hsz] at N0
  go_wp2_with (first
    | (refine wpl_store rfl 130 (.tmp 5) _ rfl w2.heap.size (Us (wl bs 64)) rfl rfl 130 _ N1.out (by rw [Tryz.size64]; simp) (by simp [zero64]) (Us_one _) ?_)
    | (refine wpl_store rfl 130 (.tmp 6) _ rfl (w2.heap.size + 1) (Us ks) rfl rfl 130 _ (N0.out.rowFar (by omega) _) (by rw [Tryz.size64]; rfl) (by simp [zero64]; rfl) (Us_one _) ?_; generalize (((w2.alloc (.cells zero64.toArray 130)).alloc (.cells zero64.toArray 130)).setRow w2.heap.size (Us (wl bs 64)).toArray).setRow (w2.heap.size + 1) (Us ks).toArray = W3 at M3' ⊢; clear N0 N1)
    | (refine wpl_load rfl 96 (.tmp 2) rfl w.heap.size rfl 96 _ M3'.out.1.1.2.1 8 95 Tryz.underlying96 (by rw [Tryz.size8]; simp [St.list]) ?_)
    | (refine wpl_store rfl 96 (.tmp 7) _ rfl W3.heap.size (Us s.list) rfl rfl 96 _ (Blk.new W3 96 zero8) (by rw [Tryz.size8]; simp [St.list]) (by simp [zero8, St.list]) (Us_one _) ?_; rw [show W3.heap.size = w2.heap.size + 2 from M3'.out.2]))
  have M4 := Lib.hid (Mx.new M3'.out.1 M3'.out.2 s.list)
  generalize (W3.alloc (.cells zero8.toArray 96)).setRow (w2.heap.size + 2) (Us s.list).toArray = W4 at M4 ⊢
  clear M3'
  generalize w2.heap.size = p at M4 ⊢
  go_loopw [20] (fun i wr => ∃ k : Nat, k ≤ 64 ∧ i = .int .i64 k ∧ Mx w wr p s.list (wl bs 64) (rounds (wl bs 64) s k).list) (fun i _ => 64 - (intOf i).toNat)
  case atStart => exact ⟨0, by omega, rfl, M4.out⟩
  case round =>
    obtain ⟨k, hk, rfl, hT⟩ := hrel
    clear M4
    by_cases hlt : k < 64
    · have l1 : (k : Int) < 64 := by omega
      have HR : Hid (rounds (wl bs 64) s (k + 1) = round1 (rounds (wl bs 64) s k) (gw ks k) (gw (wl bs 64) k)) := rfl
      generalize rounds (wl bs 64) s k = r at hT HR
      have HR' := Lib.hid HR.out
      clear HR
      have c0 := hT.2.cell 0 (.int .u32 (un r.a)) rfl
      have c1 := hT.2.cell 1 (.int .u32 (un r.b)) rfl
      have c2 := hT.2.cell 2 (.int .u32 (un r.c)) rfl
      have c3 := hT.2.cell 3 (.int .u32 (un r.d)) rfl
      have c4 := hT.2.cell 4 (.int .u32 (un r.e)) rfl
      have c5 := hT.2.cell 5 (.int .u32 (un r.f)) rfl
      have c6 := hT.2.cell 6 (.int .u32 (un r.g)) rfl
      have c7 := hT.2.cell 7 (.int .u32 (un r.h)) rfl
      have ck := hT.1.2.2.2.cell k _ (Us_at ks k hlt)
      have cw := hT.1.2.2.1.cell k _ (Us_at (wl bs 64) k (by simpa using hlt))
      have HT := Lib.hid hT
      clear hT
      generalize gw ks k = kk at ck HR'
      generalize gw (wl bs 64) k = ww at cw HR'
      go_wp2
      go_quiet (fail)
      go_wp2_with (go_at_call 115; refine (right_any _ _ (by omega) (by omega) _).mono ?_; rintro e w' ⟨rfl, rfl⟩)
      go_quiet (fail)
      have HT' := Lib.hid (HT.out.drewN)
      go_wp2_with (first
        | (go_at_call 115; refine (right_any _ _ (by omega) (by omega) _).mono ?_; rintro e w' ⟨rfl, rfl⟩)
        | (refine wpl_build rfl 96 _ rfl (Us (round1 r kk ww).list) (by kernel_rfl) ?_)
        | (refine wpl_store rfl 96 (.tmp 7) _ rfl (p + 2) (Us (round1 r kk ww).list) rfl rfl 96 _ (HT'.out _).2 (by rw [Tryz.size8]; simp [St.list]) (by simp [St.list]) (Us_one _) ?_))
      go_roundw
      case rel => exact ⟨k + 1, by omega, by go_num, by rw [HR'.out]; exact (HT'.out _).put _⟩
      case measure => simp [intOf]; omega
    · have e : k = 64 := by omega
      subst e
      have HM : Hid (mix s bs = s.add (rounds (wl bs 64) s 64)) := rfl
      generalize rounds (wl bs 64) s 64 = r at hT HM
      have HM' := Lib.hid HM.out
      have HT := Lib.hid hT
      clear hT HM
      go_wp2
      go_loopw [102] (fun i wr => ∃ k : Nat, k ≤ 8 ∧ i = .int .i64 k ∧ Mx w wr p (mixk s r k) (wl bs 64) r.list) (fun i _ => 8 - (intOf i).toNat)
      case atStart => exact ⟨0, by omega, rfl, by rw [mixk_zero]; exact HT.out⟩
      case round =>
        obtain ⟨k, hk, rfl, hT⟩ := hrel
        clear HT
        by_cases hlt : k < 8
        · have l1 : (k : Int) < 8 := by omega
          have c1 := hT.1.1.2.1.cell k _ (Us_at (mixk s r k) k (by rw [mixk_length s r k hk]; omega))
          rw [mixk_at s r k hlt] at c1
          have c2 := hT.2.cell k _ (Us_at r.list k (by simpa [St.list] using hlt))
          have c3 := hT.1.1.2.1.frozen k
          have HT := Lib.hid hT
          clear hT
          have HN := Lib.hid (mixk_set s r k hlt)
          generalize gw s.list k = x at c1 HN
          generalize gw r.list k = y at c2 HN
          go_wp2
          go_region
          go_wp2
          go_roundw
          case rel => exact ⟨k + 1, by omega, by go_num, by rw [← HN.out]; exact (HT.out.drewN _).box _ _⟩
          case measure => simp [intOf]; omega
        · have e : k = 8 := by omega
          subst e
          rw [mixk_all, ← HM'.out] at hT
          have HT := Lib.hid hT
          clear hT HM'
          obtain ⟨m, hm⟩ : ∃ m, m = mix s bs := ⟨_, rfl⟩
          rw [← hm] at HT
          have HM2 := Lib.hid hm
          clear hm
          go_wp2_with (first
            | (refine wpl_load rfl 96 (.tmp 2) rfl w.heap.size rfl 96 _ HT.out.1.1.2.1 8 95 Tryz.underlying96 (by rw [Tryz.size8]; simp [St.list]) ?_)
            | (refine wpl_store rfl 96 (.tmp 4) _ rfl (w.heap.size + 1) (Us m.list) rfl rfl 96 _ HT.out.1.1.2.2 (by rw [Tryz.size8]; simp [St.list]) (by simp [St.list]) (Us_one _) ?_))
          refine bodyPost_ret (v := .agg (Us m.list).toArray) (res_row rfl _ _ (w.heap.size + 1) 96 _ 8 95 rfl (HT.out.1.1.2.2.row _) Tryz.underlying96 (by rw [Tryz.size8]; simp [St.list])) rfl ⟨by rw [HM2.out], below_setRow' HT.out.1.1.1 (by omega) _⟩
end Go.Proofs.YtmnndehoopmmaaaGreatDoor
