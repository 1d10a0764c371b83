/- ref5.GetCommit: the document's commit from a text is the program's. -/
import Derived.Test.YtpbnigpdpkfpaaaGreatDoorP10x
import Derived.Test.YtpbnigpdpkfpaaaGreatDoorMc
import Derived.Test.YtpbnigpdpkfpaaaGreatDoorP12x
import Derived.Test.YtpbnigpdpkfpaaaGreatDoorP5x
import Derived.Test.YtpbnigpdpkfpaaaGreatDoorP9x
import Derived.Deep.CutBlock
namespace Go.Proofs.YtpbnigpdpkfpaaaGreatDoor
open Go.RowKit
/-- What ref5.GetCommit tells. -/
def RGetCPost (W : World) (l : List UInt8) (e : Ending) (W' : World) : Prop := match getC l with
  | some c => ∃ A d, e = .returned (.tuple #[.agg (comL c A c.ps.length d).toArray, .bool true]) ∧ RowQ W' W.heap.size 24 32 (.slice A c.ps.length d) c.ps.length (rowI c.ps) ∧ Below W.heap.size W W'
  | none => e = .returned (.tuple #[.agg zeroC.toArray, .bool false]) ∧ Below W.heap.size W W'
def wordW (l w : List UInt8) : List UInt8 × List UInt8 × Bool := match wordV l w with | some (t, r) => (t, r, true) | none => ([], [], false)
theorem wordT_eq (l w : List UInt8) : wordT l w = .tuple #[.string ⟨(wordW l w).1.toArray⟩, .string ⟨(wordW l w).2.1.toArray⟩, .bool (wordW l w).2.2] := by
  unfold wordT wordW
  cases wordV l w <;> rfl
theorem wordW_true {l w : List UInt8} (h : (wordW l w).2.2 = true) : wordV l w = some ((wordW l w).1, (wordW l w).2.1) := by
  unfold wordW at h ⊢
  cases hv : wordV l w with
  | none => rw [hv] at h; cases h
  | some x => rfl
theorem wordW_false {l w : List UInt8} (h : (wordW l w).2.2 = false) : wordV l w = none := by
  unfold wordW at h
  cases hv : wordV l w with
  | none => rfl
  | some x => rw [hv] at h; cases h
theorem wordW_len (l w : List UInt8) : (wordW l w).1.length ≤ l.length ∧ (wordW l w).2.1.length ≤ l.length := by
  unfold wordW
  cases hv : wordV l w with
  | none => exact ⟨Nat.zero_le _, Nat.zero_le _⟩
  | some x =>
    obtain ⟨t, r⟩ := x
    have := congrArg List.length (wordV_some hv)
    simp only [List.length_append, List.length_cons] at this
    exact ⟨by show t.length ≤ _; omega, by show r.length ≤ _; omega⟩
/-- What is behind the first line. -/
def tailC (x0 : Idt) : Option (List Idt × List UInt8) → Option Com
  | none => none
  | some (ps, r2) => match wordV r2 whenW with
    | none => none
    | some (t2, r3) => if (rgetV t2).2 = true ∧ r3.head? = some 10 ∧ mayC ⟨x0, ps, (rgetV t2).1, r3.drop 1⟩ = true then some ⟨x0, ps, (rgetV t2).1, r3.drop 1⟩ else none
theorem getC_tail (l : List UInt8) : getC l = match wordV l treeW with | none => none | some (t, r) => if (idR t).2 = true then tailC ⟨(idR t).1, idR_len t⟩ (parsF r.length r []) else none := by
  rw [← rgetC_eq]
  unfold rgetC
  cases wordV l treeW with
  | none => rfl
  | some x =>
    obtain ⟨t, r⟩ := x
    simp only
    split
    · cases parsF r.length r [] with
      | none => rfl
      | some y => rfl
    · rfl
theorem tail_word {x0 : Idt} {ps : List Idt} {r2 : List UInt8} (h : (wordW r2 whenW).2.2 = false) : tailC x0 (some (ps, r2)) = none := by
  simp only [tailC, wordW_false h]
theorem tail_some {x0 : Idt} {ps : List Idt} {r2 : List UInt8} (h : (wordW r2 whenW).2.2 = true) : tailC x0 (some (ps, r2)) = if (rgetV (wordW r2 whenW).1).2 = true ∧ (wordW r2 whenW).2.1.head? = some 10 ∧ mayC ⟨x0, ps, (rgetV (wordW r2 whenW).1).1, (wordW r2 whenW).2.1.drop 1⟩ = true then some ⟨x0, ps, (rgetV (wordW r2 whenW).1).1, (wordW r2 whenW).2.1.drop 1⟩ else none := by
  simp only [tailC, wordW_true h]
theorem parsF_end {n : Nat} {x : List UInt8} {a : List Idt} (h : (wordW x parW).2.2 = false) : parsF n x a = some (a, x) := by
  cases n with
  | zero => rfl
  | succ n => rw [parsF, wordW_false h]
theorem parsF_next {n : Nat} {x : List UInt8} {a : List Idt} (hn : x.length ≤ n) (h : (wordW x parW).2.2 = true) : ∃ m, n = m + 1 ∧ (wordW x parW).2.1.length ≤ m ∧
    parsF n x a = if (idR (wordW x parW).1).2 = true then parsF m (wordW x parW).2.1 (a ++ [⟨(idR (wordW x parW).1).1, idR_len (wordW x parW).1⟩]) else none := by
  have hv := wordW_true h
  have hl := wordV_len hv
  cases n with
  | zero => omega
  | succ n =>
    refine ⟨n, rfl, by omega, ?_⟩
    rw [parsF, hv]
theorem ComIn.noteAt {V w : World} {c : Com} (h : ComIn V w c) (s : ByteArray) : ComIn V (w.setCell ⟨V.heap.size, 34, none⟩ (.string s)) { c with note := s.data.toList } := by
  obtain ⟨A, d, h1, h2, h3⟩ := h.ex
  refine ⟨⟨A, d, ?_, h2.far h3 _, h3⟩, below_setCell' h.low _ _ (Nat.le_refl _) _, h.bits⟩
  have := h1.setCell 34 (.string s)
  have e : (comL c A c.ps.length d).set 34 (.string s) = comL { c with note := s.data.toList } A c.ps.length d := by
    unfold comL
    rw [List.set_append_right _ _ (by rw [encI_len]; decide), encI_len]
    simp
  rw [e] at this
  exact this
theorem run_storeV (w : World) (ad : Addr) (x v : Value) (hx : x.oneCell' = true) (hc : w.cell? ad = some v) (hf : w.frozen? ad = false) : (store ad x).run Tryz.prog w = .ok () (w.setCell ad x) := by
  rw [run_store _ _ _ _ _ hx]
  simp [hc, hf]
set_option maxRecDepth 20000 in
set_option maxHeartbeats 16000000 in
theorem rgetCommit_any (W : World) (s : ByteArray) (l : List UInt8) (hl : l = s.data.toList) (hs : s.size ≤ 1048576) : Calls Tryz.prog 77 #[.string s] W (RGetCPost W l) := by
  have zI := zI_eq
  have r0 := Blk.new W 28 zeroC
  have l0 := (Below.refl W.heap.size W).alloc (Nat.le_refl _) (.cells zeroC.toArray 28)
  obtain ⟨V, hV⟩ : ∃ V, V = W.alloc (.cells zeroC.toArray 28) := ⟨_, rfl⟩
  rw [← hV] at r0 l0
  have i0 : ComIn V (V.alloc (.cells zeroC.toArray 28)) noCom := ⟨⟨none, 0, Blk.new V _ _, RowQ.nil _ _ _ _, by simp [Value.ownBlock]⟩, (Below.refl _ _).alloc (Nat.le_refl _) _, by show (0 : Nat) < _; decide⟩
  have hls : l.length = s.size := by rw [hl, ← ba_size]
  have cW1 := fun w => rword_any w s ⟨#[116, 114, 101, 101, 32]⟩ l treeW hl rfl (by omega)
  rw [wordT_eq] at cW1
  have hG := getC_tail l
  obtain ⟨t, ht⟩ : ∃ t, t = (wordW l treeW).1 := ⟨_, rfl⟩
  obtain ⟨r, hr⟩ : ∃ r, r = (wordW l treeW).2.1 := ⟨_, rfl⟩
  obtain ⟨ok, hok⟩ : ∃ ok, ok = (wordW l treeW).2.2 := ⟨_, rfl⟩
  have hrl : r.length ≤ 1048576 := by rw [hr]; have := (wordW_len l treeW).2; omega
  have hg1 : ok = false → getC l = none := fun h => by rw [hG, wordW_false (by rw [← hok]; exact h)]
  have hg2 : ok = true → getC l = if (idR t).2 = true then tailC ⟨(idR t).1, idR_len t⟩ (parsF r.length r []) else none := fun h => by
    rw [hG, wordW_true (by rw [← hok]; exact h), ht, hr]
  rw [← ht, ← hr, ← hok] at cW1
  clear hG
  obtain ⟨tb, htb⟩ : ∃ tb : ByteArray, tb = ⟨t.toArray⟩ := ⟨_, rfl⟩
  obtain ⟨rb, hrb⟩ : ∃ rb : ByteArray, rb = ⟨r.toArray⟩ := ⟨_, rfl⟩
  rw [← htb, ← hrb] at cW1
  have cH := fun w => getHex_any w tb t (by rw [htb])
  obtain ⟨x0, hx0⟩ : ∃ x0 : Idt, x0 = ⟨(idR t).1, idR_len t⟩ := ⟨_, rfl⟩
  obtain ⟨inn, hin⟩ : ∃ b, b = (idR t).2 := ⟨_, rfl⟩
  rw [← hx0, ← hin] at hg2
  have hx0b : Bs (idR t).1 = encI x0 := by rw [hx0]; rfl
  rw [← hin, hx0b] at cH
  have hrd : rb.data.toList = r := by rw [hrb]
  have HG1 := Lib.hid hg1
  have HG2 := Lib.hid hg2
  have CW1 := Lib.hid cW1
  have CH := Lib.hid cH
  have IX := Lib.hid (infoId x0)
  have PX := Lib.hid (encI_one x0)
  have LX := Lib.hid (encI_len x0)
  have HRD := Lib.hid hrd
  have RL := Lib.hid hrl
  have R0 := Lib.hid r0
  have L0 := Lib.hid l0
  have I0 := Lib.hid i0
  obtain ⟨ex, hex⟩ : ∃ ex, ex = encI x0 := ⟨_, rfl⟩
  rw [← hex] at CH IX PX LX
  have HEX := Lib.hid hex
  clear hl hs hls cW1 ht hr hok hrl hg1 hg2 htb hrb cH hx0 hin hx0b hrd r0 l0 i0 hex
  go_enter Tryz.func77, Tryz.ntmps77
  go_upto_region 1 with fail
  change Code.wp _ _ _ _ (W.alloc (.cells zeroC.toArray 28))
  rw [← hV]
  clear hV
  obtain ⟨g0, hg0⟩ : ∃ g0, g0 = W.heap.size := ⟨_, rfl⟩
  rw [← hg0] at R0
  rw [← hg0]
  have G0 := Lib.hid hg0
  clear hg0
  go_upto_region 2 with fail
  change Code.wp _ _ _ _ (V.alloc (.cells zeroC.toArray 28))
  generalize V.alloc (.cells zeroC.toArray 28) = w1 at I0 ⊢
  go_upto_region 4 with (first
    | (go_at_call 136; refine (CW1.out _).mono ?_; rintro e w2 ⟨rfl, q, rfl⟩; have I2 := Lib.hid (I0.out.below (below_drewN' (Below.refl _ _) q)))
    | (go_at_call 137; refine (CH.out _).mono ?_; rintro e w3 ⟨rfl, hb⟩; have I3 := Lib.hid (I2.out.below hb); clear hb)
    | (refine wpl_storeS rfl 24 (.tmp 8) _ rfl w3.heap.size ex rfl rfl 24 zero32 (Blk.new w3 _ _) IX.out (by rw [LX.out]; rfl) PX.out ?_))
  generalize hw4 : World.setRow _ _ _ = w4
  have E4 : Below w3.heap.size w3 w4 := by rw [← hw4]; exact below_setRow' ((Below.refl _ _).alloc (Nat.le_refl _) _) (Nat.le_refl _) _
  have K4 : Hid (Blk w4 w3.heap.size 24 ex) := Lib.hid (by rw [← hw4]; exact (Blk.new w3 24 zero32).row _)
  have I4 := Lib.hid (I3.out.below E4)
  clear hw4 E4 I0 I2 I3 CW1 CH
  generalize w3.heap.size = g8 at K4 ⊢
  have R4 := Lib.hid (R0.out.below I4.out.low)
  by_cases hgood : (ok && inn) = true
  · rw [Bool.and_eq_true] at hgood
    obtain ⟨hok, hin⟩ := hgood
    subst hok
    subst hin
    have hg : getC l = tailC x0 (parsF r.length r []) := by rw [HG2.out rfl, if_pos rfl]
    have HG := Lib.hid hg
    clear hg HG1 HG2 R4
    go_upto_region 7 with (first
      | (refine wpl_loadS rfl 24 (.tmp 8) rfl ⟨g8, 0, none⟩ rfl ex Tryz.isAgg24 IX.out (fun j u hu => by rw [addr_row _ rfl, Nat.zero_add]; exact K4.out.cell j u hu) ?_)
      | (refine wpl_store_mid rfl 24 (.tmp 35) _ rfl V.heap.size 0 ex rfl rfl (by rw [LX.out]; exact I4.out.there) IX.out PX.out ?_))
    have i5 := I4.out.name x0
    rw [← HEX.out] at i5
    have I5 := Lib.hid i5
    clear i5 I4 K4 IX PX LX HEX
    generalize w4.setCells V.heap.size 0 ex = w5 at I5 ⊢
    go_simp
    go_loopw [6] (fun v wr => ∃ (x : ByteArray) (c : Com) (n : Nat), v = .string x ∧ x.size ≤ n ∧ c.ps.length + n ≤ 1048576 ∧ c = ⟨x0, c.ps, 0, []⟩ ∧ parsF r.length r [] = parsF n x.data.toList c.ps ∧ ComIn V wr c) (fun v _ => match v with | .string x => x.size | _ => 0)
    case atStart => exact ⟨rb, { noCom with tree := x0 }, r.length, rfl, by rw [ba_size, HRD.out]; exact Nat.le_refl _, by have := RL.out; show 0 + r.length ≤ _; omega, rfl, by rw [HRD.out]; rfl, I5.out⟩
    case round =>
      obtain ⟨x, c, n, rfl, hxn, hcn, hcc, hpf, hI⟩ := hrel
      have KR := Lib.hid hI
      have HXN := Lib.hid hxn
      have HCN := Lib.hid hcn
      have HCC := Lib.hid hcc
      obtain ⟨xl, hxl⟩ : ∃ xl, xl = x.data.toList := ⟨_, rfl⟩
      have hxz : xl.length = x.size := by rw [hxl, ← ba_size]
      rw [← hxl] at hpf
      have HPF := Lib.hid hpf
      have cW := fun w => rword_any w x ⟨#[112, 97, 114, 101, 110, 116, 32]⟩ xl parW hxl rfl (by omega)
      rw [wordT_eq] at cW
      have hn1 := fun h => parsF_next (n := n) (x := xl) (a := c.ps) (by omega) h
      have hn0 := fun h => parsF_end (n := n) (x := xl) (a := c.ps) h
      have hwl := (wordW_len xl parW).1
      obtain ⟨t1, ht1⟩ : ∃ t, t = (wordW xl parW).1 := ⟨_, rfl⟩
      obtain ⟨r1, hr1⟩ : ∃ t, t = (wordW xl parW).2.1 := ⟨_, rfl⟩
      obtain ⟨k1, hk1⟩ : ∃ t, t = (wordW xl parW).2.2 := ⟨_, rfl⟩
      have hrr : k1 = true → r1.length < x.size := fun h => by
        have := wordV_len (wordW_true (l := xl) (w := parW) (by rw [← hk1]; exact h))
        rw [hr1]
        omega
      rw [← ht1, ← hr1, ← hk1] at cW
      rw [← ht1, ← hr1, ← hk1] at hn1
      rw [← hk1] at hn0
      rw [← ht1] at hwl
      obtain ⟨tb1, htb1⟩ : ∃ tb : ByteArray, tb = ⟨t1.toArray⟩ := ⟨_, rfl⟩
      obtain ⟨rb1, hrb1⟩ : ∃ rb : ByteArray, rb = ⟨r1.toArray⟩ := ⟨_, rfl⟩
      rw [← htb1, ← hrb1] at cW
      have hrz : rb1.size = r1.length := by rw [hrb1, ba_size]
      have hrbd : rb1.data.toList = r1 := by rw [hrb1]
      have cH := fun w => getHex_any w tb1 t1 (by rw [htb1])
      have CW := Lib.hid cW
      have CH := Lib.hid cH
      have HN1 := Lib.hid hn1
      have HN0 := Lib.hid hn0
      have HRR := Lib.hid hrr
      have HRZ := Lib.hid hrz
      have HRB := Lib.hid hrbd
      have HXL := Lib.hid hxl
      have HXZ := Lib.hid hxz
      clear I5 hI hxn hcn hcc hpf cW hn1 hn0 hwl ht1 hr1 hk1 hrr htb1 hrb1 hrz hrbd cH hxl hxz
      go_upto_region 8 with (go_at_call 136; refine (CW.out _).mono ?_; rintro e w6 ⟨rfl, q, rfl⟩; have J6 := Lib.hid (KR.out.below (below_drewN' (Below.refl _ _) q)))
      generalize World.drewN wr q = w6 at J6 ⊢
      clear KR CW
      cases k1
      · have hp : getC l = tailC x0 (some (c.ps, xl)) := by rw [HG.out, HPF.out, HN0.out rfl]
        have HP := Lib.hid hp
        clear hp HG HPF HN0 HN1 HRR HRZ HRB CH
        as_aux_lemma =>
          have xz := HXN.out
          have nz := HCN.out
          have cW := fun w => rword_any w x ⟨#[119, 104, 101, 110, 32]⟩ xl whenW HXL.out rfl (by omega)
          rw [wordT_eq] at cW
          have hp0 := fun h => tail_word (x0 := x0) (ps := c.ps) (r2 := xl) h
          have hp1 := fun h => tail_some (x0 := x0) (ps := c.ps) (r2 := xl) h
          have hwl := wordW_len xl whenW
          generalize (wordW xl whenW).1 = t2 at cW hp1 hwl
          generalize (wordW xl whenW).2.1 = r3 at cW hp1 hwl
          generalize (wordW xl whenW).2.2 = k2 at cW hp0 hp1
          obtain ⟨tb2, htb2⟩ : ∃ tb : ByteArray, tb = ⟨t2.toArray⟩ := ⟨_, rfl⟩
          obtain ⟨rb2, hrb2⟩ : ∃ rb : ByteArray, rb = ⟨r3.toArray⟩ := ⟨_, rfl⟩
          rw [← htb2, ← hrb2] at cW
          have htd : tb2.data.toList = t2 := by rw [htb2]
          have hrd2 : rb2.data.toList = r3 := by rw [hrb2]
          have hxz := HXZ.out
          have cG := fun w => rget_any w tb2 (by rw [ba_size, htd]; omega)
          rw [htd] at cG
          unfold rgetT at cG
          have hf64 : (rgetV t2).2 = true → (rgetV t2).1 < 18446744073709551616 := fun h => (rgetV_put h).2
          generalize (rgetV t2).1 = fv at cG hp1 hf64
          generalize (rgetV t2).2 = k3 at cG hp1 hf64
          have CW := Lib.hid cW
          have CG := Lib.hid cG
          have HP0 := Lib.hid hp0
          have HP1 := Lib.hid hp1
          have H64 := Lib.hid hf64
          have HRD2 := Lib.hid hrd2
          have RZ2 := Lib.hid (show rb2.size ≤ 1048576 by rw [ba_size, hrd2]; omega)
          clear cW cG hp0 hp1 hwl htb2 hrb2 htd hrd2 hxz xz nz hf64
          go_upto_region 15 with (first
            | (go_at_call 136; refine (CW.out _).mono ?_; rintro e w7 ⟨rfl, q2, rfl⟩; have J7 := Lib.hid (J6.out.below (below_drewN' (Below.refl _ _) q2)))
            | (go_at_call 138; refine (CG.out _).mono ?_; rintro e w8 ⟨rfl, hb⟩; have J8 := Lib.hid (J7.out.below hb); clear hb))
          clear J6 J7 CW CG
          have R8 := Lib.hid (R0.out.below J8.out.low)
          by_cases hgood : k2 = true ∧ k3 = true ∧ r3.head? = some 10
          · obtain ⟨rfl, rfl, h10⟩ := hgood
            obtain ⟨r4, hr4⟩ : ∃ r4, r3 = 10 :: r4 := by
              cases r3 with
              | nil => cases h10
              | cons a r => exact ⟨r, by rw [show a = 10 from by simpa using h10]⟩
            have hq1 : (rb2.toList == []) = false := by rw [ByteArray.toList_eq, HRD2.out, hr4]; rfl
            have hq2 : rb2.toList.isEmpty = false := by rw [ByteArray.toList_eq, HRD2.out, hr4]; rfl
            have hz2 : 0 < rb2.size := by rw [ba_size, HRD2.out, hr4]; exact Nat.zero_lt_succ _
            have hz2i : (0 : Int) < (rb2.size : Int) := by omega
            have hz1i : (1 : Int) ≤ (rb2.size : Int) := by omega
            have hv : (((rb2[0]'hz2).toNat : Int) != 10) = false := by
              have e : rb2[0]'hz2 = 10 := by rw [ba_at2 rb2 0 hz2, HRD2.out, hr4]; rfl
              rw [e]
              rfl
            obtain ⟨nb, hnb⟩ : ∃ nb : ByteArray, rb2.extract 1 rb2.size = nb := ⟨_, rfl⟩
            have hnd : nb.data.toList = r4 := by rw [← hnb, ba_from, HRD2.out, hr4]; rfl
            have hd1 : r3.drop 1 = r4 := by rw [hr4]; rfl
            obtain ⟨c2, hc2⟩ : ∃ c2 : Com, c2 = ⟨x0, c.ps, fv, r4⟩ := ⟨_, rfl⟩
            have hgc : getC l = if mayC c2 = true then some c2 else none := by
              rw [HP.out, HP1.out rfl, hd1, ← hc2]
              by_cases hm : mayC c2 = true
              · rw [if_pos hm, if_pos ⟨rfl, h10, hm⟩]
              · rw [if_neg hm, if_neg (fun h => hm h.2.2)]
            have HGC := Lib.hid hgc
            have h64 := H64.out rfl
            obtain ⟨⟨v33, hc33⟩, hf33⟩ := J8.out.cell 33 (by decide)
            obtain ⟨⟨v34, hc34⟩, hf34⟩ := J8.out.cell 34 (by decide)
            have N64 := Lib.hid h64
            have hcc := HCC.out
            have j9 : ∀ w, ComIn V w c → ComIn V ((w.setCell ⟨V.heap.size, 33, none⟩ (.float .f64 fv)).setCell ⟨V.heap.size, 34, none⟩ (.string nb)) c2 := fun w hw => by
              have h1 := (hw.time fv h64).noteAt nb
              have e : ({ ({ c with wh := fv } : Com) with note := nb.data.toList } : Com) = c2 := by
                rw [hc2, hnd]
                have : c.tree = x0 := by rw [hcc]
                rw [← this]
              rw [e] at h1
              exact h1
            have J9 := Lib.hid j9
            have C2P : Hid (c2.ps = c.ps) := Lib.hid (by rw [hc2])
            have C2N : Hid (c2.note.length ≤ 1048576) := Lib.hid (by rw [hc2]; have h1 := RZ2.out; rw [ba_size, HRD2.out, hr4] at h1; simp only [List.length_cons] at h1; show r4.length ≤ _; omega)
            clear h10 hr4 hd1 hgc h64 hcc j9 hnd hc2 HP1 HP0 HP H64 HRD2 RZ2 hz2i
            go_upto_region 17 with fail
            go_cut [3] (fun _ wx => ComIn V wx c2)
            case first =>
              refine wp_region_any (by kernel_rfl) ?_
              change wpAny _ _ _ _ _ _ _ (World.drew _)
              have JD := Lib.hid (J8.out.below (Below.refl w8.heap.size w8).drew)
              generalize World.drew w8 = v0 at JD ⊢
              refine wpAny_bare [0, 1, 2, 3] 3 (by rfl) (by kernel_rfl) (fun _ _ _ d _ h => by cases d <;> exact h) ?_
              simp only [bareO, List.filterMap_cons, List.filterMap_nil, List.getElem?_toArray, List.getElem?_cons_succ, List.getElem?_cons_zero]
              repeat (first | quiet_step (fail) | go_big_quiet_step (fail))
              refine wpQuiet_nil ?_
              obtain ⟨⟨a33, ha33⟩, fa33⟩ := JD.out.cell 33 (by decide)
              obtain ⟨⟨a34, ha34⟩, fa34⟩ := JD.out.cell 34 (by decide)
              have sA := run_storeV v0 ⟨V.heap.size, 33, none⟩ (.float .f64 fv) a33 rfl ha33 fa33
              have sB := run_storeV v0 ⟨V.heap.size, 34, none⟩ (.string nb) a34 rfl ha34 fa34
              clear hc33 hf33 hc34 hf34 ha34 fa34 sB
              refine wpAny_ready (rs := [4]) (by kernel_rfl) (by simp) ?_
              refine (AllReady.cons rfl (fun K hK => ?_) AllReady.nil)
              go_simp
              refine hK _ _ ?_
              clear hK K
              obtain ⟨⟨b34, hb34⟩, fb34⟩ := (JD.out.time fv N64.out).cell 34 (by decide)
              refine wpAny_ready (rs := [5]) (by kernel_rfl) (by simp) ?_
              refine (AllReady.cons rfl (fun K hK => ?_) AllReady.nil)
              go_simp
              refine hK _ _ ?_
              clear hK K
              refine wpAny_ready (rs := [6]) (by kernel_rfl) (by simp) ?_
              refine (AllReady.cons rfl (fun K hK => ?_) AllReady.nil)
              go_simp
              refine hK _ _ ?_
              clear hK K
              refine wpAny_done (by kernel_rfl) ?_ _
              go_wp2
              go_meet
              exact J9.out _ JD.out
            case rest =>
              have hj := hcut
              clear hcut
              obtain ⟨A1, d1, hbk, hrq, hne⟩ := hj.ex
              obtain ⟨Ax, dx, e, hcd, hcm⟩ := hrq.shape
              injection e with _ _ e
              subst e
              have pz : c2.ps.length ≤ 1048576 := by rw [C2P.out]; have := HCN.out; omega
              have hca : ComAt wc c2 A1 c2.ps.length d1 := ⟨hrq.src (rowI_one _), hcd, hcm, hj.bits, by have := C2N.out; simp only [maxLen]; omega⟩
              have cM := rmayC_any wc c2 A1 c2.ps.length d1 hca (by omega)
              have BK := Lib.hid hbk
              have RQ := Lib.hid hrq
              have IC := Lib.hid (infoC c2 A1 c2.ps.length d1)
              have PC := Lib.hid (comL_one c2 A1 c2.ps.length d1)
              have LC := Lib.hid (comL_len c2 A1 c2.ps.length d1)
              have LW := Lib.hid hj.low
              have gz : g0 < V.heap.size := R0.out.lt
              have GZ := Lib.hid gz
              clear hc33 hf33 hc34 hf34 hbk hrq hne hcd hcm hca pz hj J9 J8 R8 N64 C2N C2P hv hq1 hq2 hz1i
              obtain ⟨cs, hcs⟩ : ∃ cs, cs = comL c2 A1 c2.ps.length d1 := ⟨_, rfl⟩
              rw [← hcs] at cM BK IC PC LC
              have HCS := Lib.hid hcs
              clear hcs gz
              cases hm : mayC c2
              · have HN : Hid (getC l = none) := Lib.hid (by rw [HGC.out, hm]; rfl)
                rw [hm] at cM
                have CM := Lib.hid cM
                clear cM hm HGC
                go_wp2_with (first
                  | (refine wpl_loadS rfl 28 (.tmp 4) rfl ⟨V.heap.size, 0, none⟩ rfl cs Tryz.isAgg28 IC.out (fun j u hu => by rw [addr_row _ rfl, Nat.zero_add]; exact BK.out.cell j u hu) ?_)
                  | (go_at_call 69; refine CM.out.mono ?_; rintro e w10 ⟨rfl, h10⟩; have L10 := Lib.hid (LW.out.trans (h10.mono LW.out.size)); clear h10; have R10 := Lib.hid (R0.out.below L10.out))
                  | (refine wpl_build rfl 28 _ rfl zeroC (by kernel_rfl) ?_)
                  | (refine wpl_storeS rfl 28 (.tmp 2) _ rfl g0 zeroC rfl rfl 28 zeroC R10.out infoZC rfl (comL_one _ _ _ _) ?_))
                refine bodyPost_ret (res_rowS2 rfl _ _ g0 28 zeroC _ rfl (R10.out.row _) Tryz.underlying28 rfl infoZC) rfl ?_
                unfold RGetCPost
                rw [HN.out]
                exact ⟨rfl, below_setRow' (L0.out.trans (L10.out.mono L0.out.size)) (by rw [G0.out]; exact Nat.le_refl _) _⟩
              · have HN : Hid (getC l = some c2) := Lib.hid (by rw [HGC.out, hm]; rfl)
                rw [hm] at cM
                have CM := Lib.hid cM
                clear cM hm HGC
                go_wp2_with (first
                  | (refine wpl_loadS rfl 28 (.tmp 4) rfl ⟨V.heap.size, 0, none⟩ rfl cs Tryz.isAgg28 IC.out (fun j u hu => by rw [addr_row _ rfl, Nat.zero_add]; exact BK.out.cell j u hu) ?_)
                  | (go_at_call 69; refine CM.out.mono ?_; rintro e w10 ⟨rfl, h10⟩; have L10 := Lib.hid (LW.out.trans (h10.mono LW.out.size)); have R10 := Lib.hid (R0.out.below L10.out); have BK2 := Lib.hid (BK.out.below h10); have RQ2 := Lib.hid (RQ.out.below h10); clear h10)
                  | (refine wpl_loadS rfl 28 (.tmp 4) rfl ⟨V.heap.size, 0, none⟩ rfl cs Tryz.isAgg28 IC.out (fun j u hu => by rw [addr_row _ rfl, Nat.zero_add]; exact BK2.out.cell j u hu) ?_)
                  | (refine wpl_storeS rfl 28 (.tmp 2) _ rfl g0 cs rfl rfl 28 zeroC R10.out IC.out (by rw [LC.out]; rfl) PC.out ?_))
                refine bodyPost_ret (res_rowS2 rfl _ _ g0 28 cs _ rfl (R10.out.row _) Tryz.underlying28 rfl IC.out) rfl ?_
                unfold RGetCPost
                rw [HN.out]
                refine ⟨A1, d1, by rw [HCS.out]; rfl, ?_, below_setRow' (L0.out.trans (L10.out.mono L0.out.size)) (by rw [G0.out]; exact Nat.le_refl _) _⟩
                exact (RQ2.out.rowFar (fun e => by have := (RQ2.out.lt _ e).1; have := GZ.out; omega) _).mono L0.out.size
          · have HN : Hid (getC l = none) := Lib.hid (by
              cases k2
              · rw [HP.out, HP0.out rfl]
              · rw [HP.out, HP1.out rfl, if_neg (fun h => hgood ⟨rfl, h.1, h.2.1⟩)])
            clear HP HP0 HP1 H64
            cases k2
            · clear hgood
              go_wp2_with (first
                | (refine wpl_build rfl 28 _ rfl zeroC (by kernel_rfl) ?_)
                | (refine wpl_storeS rfl 28 (.tmp 2) _ rfl g0 zeroC rfl rfl 28 zeroC R8.out infoZC rfl (comL_one _ _ _ _) ?_))
              refine bodyPost_ret (res_rowS2 rfl _ _ g0 28 zeroC _ rfl (R8.out.row _) Tryz.underlying28 rfl infoZC) rfl ?_
              unfold RGetCPost
              rw [HN.out]
              exact ⟨rfl, below_setRow' (L0.out.trans (J8.out.low.mono L0.out.size)) (by rw [G0.out]; exact Nat.le_refl _) _⟩
            · cases k3
              · clear hgood
                go_wp2_with (first
                  | (refine wpl_build rfl 28 _ rfl zeroC (by kernel_rfl) ?_)
                  | (refine wpl_storeS rfl 28 (.tmp 2) _ rfl g0 zeroC rfl rfl 28 zeroC R8.out infoZC rfl (comL_one _ _ _ _) ?_))
                refine bodyPost_ret (res_rowS2 rfl _ _ g0 28 zeroC _ rfl (R8.out.row _) Tryz.underlying28 rfl infoZC) rfl ?_
                unfold RGetCPost
                rw [HN.out]
                exact ⟨rfl, below_setRow' (L0.out.trans (J8.out.low.mono L0.out.size)) (by rw [G0.out]; exact Nat.le_refl _) _⟩
              · have hnot : r3.head? ≠ some 10 := fun h => hgood ⟨rfl, rfl, h⟩
                clear hgood
                by_cases hr30 : r3 = []
                · have hq1 : (rb2.toList == []) = true := by rw [ByteArray.toList_eq, HRD2.out, hr30]; rfl
                  have hq2 : rb2.toList.isEmpty = true := by rw [ByteArray.toList_eq, HRD2.out, hr30]; rfl
                  clear hnot hr30
                  go_wp2_with (first
                    | (refine wpl_build rfl 28 _ rfl zeroC (by kernel_rfl) ?_)
                    | (refine wpl_storeS rfl 28 (.tmp 2) _ rfl g0 zeroC rfl rfl 28 zeroC R8.out infoZC rfl (comL_one _ _ _ _) ?_))
                  refine bodyPost_ret (res_rowS2 rfl _ _ g0 28 zeroC _ rfl (R8.out.row _) Tryz.underlying28 rfl infoZC) rfl ?_
                  unfold RGetCPost
                  rw [HN.out]
                  exact ⟨rfl, below_setRow' (L0.out.trans (J8.out.low.mono L0.out.size)) (by rw [G0.out]; exact Nat.le_refl _) _⟩
                · obtain ⟨a, r4, hr4⟩ : ∃ a r4, r3 = a :: r4 := List.exists_cons_of_ne_nil hr30
                  have ha : a ≠ 10 := fun h => hnot (by rw [hr4, h]; rfl)
                  have hq1 : (rb2.toList == []) = false := by rw [ByteArray.toList_eq, HRD2.out, hr4]; rfl
                  have hq2 : rb2.toList.isEmpty = false := by rw [ByteArray.toList_eq, HRD2.out, hr4]; rfl
                  have hz2 : 0 < rb2.size := by rw [ba_size, HRD2.out, hr4]; exact Nat.zero_lt_succ _
                  have hz2i : (0 : Int) < (rb2.size : Int) := by omega
                  have hv : (((rb2[0]'hz2).toNat : Int) != 10) = true := by
                    have e : rb2[0]'hz2 = a := by rw [ba_at2 rb2 0 hz2, HRD2.out, hr4]; rfl
                    rw [e, bne_iff_ne]
                    intro h
                    exact ha (UInt8.toNat_inj.1 (by have : (10 : UInt8).toNat = 10 := rfl; omega))
                  clear hnot hr30 hr4 ha
                  go_wp2_with (first
                    | (refine wpl_build rfl 28 _ rfl zeroC (by kernel_rfl) ?_)
                    | (refine wpl_storeS rfl 28 (.tmp 2) _ rfl g0 zeroC rfl rfl 28 zeroC R8.out infoZC rfl (comL_one _ _ _ _) ?_))
                  refine bodyPost_ret (res_rowS2 rfl _ _ g0 28 zeroC _ rfl (R8.out.row _) Tryz.underlying28 rfl infoZC) rfl ?_
                  unfold RGetCPost
                  rw [HN.out]
                  exact ⟨rfl, below_setRow' (L0.out.trans (J8.out.low.mono L0.out.size)) (by rw [G0.out]; exact Nat.le_refl _) _⟩
      · obtain ⟨m, hnm, hrm, hpn⟩ := HN1.out rfl
        have hrr := HRR.out rfl
        obtain ⟨x1, hx1⟩ : ∃ x1 : Idt, x1 = ⟨(idR t1).1, idR_len t1⟩ := ⟨_, rfl⟩
        have hx1b : Bs (idR t1).1 = encI x1 := by rw [hx1]; rfl
        have CH2 := CH.out
        rw [hx1b] at CH2
        rw [← hx1] at hpn
        generalize (idR t1).2 = i1 at CH2 hpn
        have CH3 := Lib.hid CH2
        have HPN := Lib.hid hpn
        have HRM := Lib.hid hrm
        have HNM := Lib.hid hnm
        have HR2 := Lib.hid hrr
        have IX := Lib.hid (infoId x1)
        have PX := Lib.hid (encI_one x1)
        have LX := Lib.hid (encI_len x1)
        clear hnm hrm hpn hrr hx1 hx1b CH2 CH HN1 HN0 HRR
        as_aux_lemma =>
          go_upto_region 10 with (first
            | (go_at_call 137; refine (CH3.out _).mono ?_; rintro e w7 ⟨rfl, hb⟩; have J7 := Lib.hid (J6.out.below hb); clear hb)
            | (refine wpl_storeS rfl 24 (.tmp 13) _ rfl w7.heap.size (encI x1) rfl rfl 24 zero32 (Blk.new w7 _ _) IX.out (by rw [LX.out]; rfl) PX.out ?_))
          generalize hw8 : World.setRow _ _ _ = w8
          have E8 : Below w7.heap.size w7 w8 := by rw [← hw8]; exact below_setRow' ((Below.refl _ _).alloc (Nat.le_refl _) _) (Nat.le_refl _) _
          have K8 : Hid (Blk w8 w7.heap.size 24 (encI x1)) := Lib.hid (by rw [← hw8]; exact (Blk.new w7 24 zero32).row _)
          have J8 := Lib.hid (J7.out.below E8)
          clear hw8 E8 J6 J7 CH3
          generalize w7.heap.size = g11 at K8 ⊢
          cases i1
          · have HN : Hid (getC l = none) := Lib.hid (by rw [HG.out, HPF.out, HPN.out, if_neg (by decide)]; rfl)
            have R8 := Lib.hid (R0.out.below J8.out.low)
            go_wp2_with (first
              | (refine wpl_build rfl 28 _ rfl zeroC (by kernel_rfl) ?_)
              | (refine wpl_storeS rfl 28 (.tmp 2) _ rfl g0 zeroC rfl rfl 28 zeroC R8.out infoZC rfl (comL_one _ _ _ _) ?_))
            refine bodyPost_ret (res_rowS2 rfl _ _ g0 28 zeroC _ rfl (R8.out.row _) Tryz.underlying28 rfl infoZC) rfl ?_
            unfold RGetCPost
            rw [HN.out]
            exact ⟨rfl, below_setRow' (L0.out.trans (J8.out.low.mono L0.out.size)) (by rw [G0.out]; exact Nat.le_refl _) _⟩
          · have hpn2 : parsF r.length r [] = parsF m r1 (c.ps ++ [x1]) := by rw [HPF.out, HPN.out, if_pos rfl]
            have HP2 := Lib.hid hpn2
            obtain ⟨A1, d1, hbk, hrq, hne⟩ := J8.out.ex
            have BK := Lib.hid hbk
            have RQ := Lib.hid hrq
            have NE := Lib.hid hne
            have hc32 := hbk.cell 32 _ (comL_at c A1 c.ps.length d1).1
            have pz : c.ps.length ≤ 4294967281 := by have := HCN.out; omega
            have PZ := Lib.hid pz
            have J7 := J8
            clear hbk hrq hne pz hpn2 HPN HPF
            go_wp2_with (first
              | (refine wpl_loadS rfl 24 (.tmp 13) rfl ⟨g11, 0, none⟩ rfl (encI x1) Tryz.isAgg24 IX.out (fun j u hu => by rw [addr_row _ rfl, Nat.zero_add]; exact K8.out.cell j u hu) ?_)
              | (refine wpl_buildE idtE rfl 25 24 1 _ rfl [x1] rfl rfl (.agg zero32.toArray) 32 Tryz.underlying25 Tryz.infoIdz (by decide) (by decide) ?_; have RQ3 := Lib.hid (RQ.out.alloc (.cells (idtE.row [x1]).toArray 24)); have BK3 := Lib.hid (BK.out.alloc (.cells (idtE.row [x1]).toArray 24)); have L3 := Lib.hid (J7.out.low.alloc J7.out.low.size (.cells (idtE.row [x1]).toArray 24)); have S3 := Lib.hid (row_src idtE w8 24 [x1]); generalize w8.heap.size = g12 at S3 ⊢; generalize World.alloc w8 (.cells (idtE.row [x1]).toArray 24) = w9 at RQ3 BK3 L3 S3 ⊢)
              | (at_builtin; refine wpl_append rfl (.tmp 53) (.tmp 55) 25 rfl V.heap.size 24 (.agg zero32.toArray) 32 32 Tryz.underlying25 Tryz.infoIdz rfl (by decide) (.slice A1 c.ps.length d1) c.ps.length (rowI c.ps) rfl RQ3.out (some ⟨g12, 0, none⟩) 1 1 (rowI [x1]) rfl S3.out (by have := PZ.out; omega) (by have := PZ.out; omega) L3.out.size ?_; intro v9 w9a hr9 hg9 ha9; obtain ⟨A9, d9, rfl, _, _⟩ := hr9.shape; have R9 := Lib.hid hr9; have B9 := Lib.hid (BK3.out.grown hg9 (fun e => NE.out e.symm)); have L9 := Lib.hid (L3.out.grown hg9 L3.out.size (fun k e => (RQ3.out.lt k e).1)); have NE9 : Hid ((Value.slice A9 (c.ps.length + 1) d9).ownBlock ≠ some V.heap.size) := Lib.hid (own_ne NE.out ha9 BK3.out.lt); have hc9 := B9.out.cell 32 _ (comL_at c A1 c.ps.length d1).1; have hf9 := B9.out.frozen 32; clear hr9 hg9 ha9))
            go_roundw
            case measure => show rb1.size < x.size; have h1 := HR2.out; have h2 := HRZ.out; omega
            case rel =>
              refine ⟨rb1, { c with ps := c.ps ++ [x1] }, m, rfl, by rw [HRZ.out]; exact HRM.out, ?_, ?_, by rw [HRB.out]; exact HP2.out, ComIn.push B9.out R9.out NE9.out L9.out J8.out.bits⟩
              · have h1 := HCN.out
                have h2 := HNM.out
                show (c.ps ++ [x1]).length + m ≤ _
                rw [List.length_append, List.length_singleton]
                omega
              · have h1 := HCC.out
                conv => lhs; rw [h1]
  · have HN : Hid (getC l = none) := Lib.hid (by
      cases ok
      · exact HG1.out rfl
      · cases inn
        · rw [HG2.out rfl, if_neg (by decide)]
        · exact absurd rfl hgood)
    clear HG1 HG2 K4
    as_aux_lemma =>
      cases ok <;> cases inn
      case true.true => exact absurd rfl hgood
      all_goals
        clear hgood
        go_wp2_with (first
          | (refine wpl_build rfl 28 _ rfl zeroC (by kernel_rfl) ?_)
          | (refine wpl_storeS rfl 28 (.tmp 2) _ rfl g0 zeroC rfl rfl 28 zeroC R4.out infoZC rfl (comL_one _ _ _ _) ?_))
        refine bodyPost_ret (res_rowS2 rfl _ _ g0 28 zeroC _ rfl (R4.out.row _) Tryz.underlying28 rfl infoZC) rfl ?_
        unfold RGetCPost
        rw [HN.out]
        exact ⟨rfl, below_setRow' (L0.out.trans (I4.out.low.mono L0.out.size)) (by rw [G0.out]; exact Nat.le_refl _) _⟩
end Go.Proofs.YtpbnigpdpkfpaaaGreatDoor
