/- ShaAll: the walk of the law's body. -/
import Derived.Test.YtpfoohfgochaiaaGreatDoorBe
import Derived.Test.YtpfoohfgochaiaaGreatDoorMk
import Derived.Test.YtpfoohfgochaiaaGreatDoorRs
namespace Go.Proofs.YtpfoohfgochaiaaGreatDoor
open Go.RowKit
/-- A text so far, put into a hash. -/
theorem absorb_state (l : List UInt8) (i m : Nat) (_h : i + m ≤ l.length) :
    (absorb (absorb st0 (l.take i)).1 ((absorb st0 (l.take i)).2 ++ (l.drop i).take m)) = absorb st0 (l.take (i + m)) := by
  rw [← absorb_append, List.take_add]
/-- A cut of a row, from a place on. -/
theorem RowQ.mid {w : World} {base : Nat} {A : Option Addr} {n c : Nat} {l : List UInt8} (h : RowQ w base 5 1 (.slice A n c) n (Bs l)) (i m : Nat) (hm : i + m ≤ n) :
    Src w 1 (if c = i then A else A.map (·.add i)) m (Bs ((l.drop i).take m)) := by
  have hl : l.length = n := by have := h.1; simpa using this
  refine ⟨by rw [Bs_length, List.length_take, List.length_drop]; omega, fun h0 => ?_, Bs_one _⟩
  have hs := h.src (Bs_one _)
  obtain ⟨ad, rfl, hc⟩ := hs.2.1 (by omega)
  have hci : c ≠ i := by
    obtain ⟨A1, c1, e, h1, _⟩ := h.shape
    injection e with _ _ e
    omega
  rw [if_neg hci]
  refine ⟨ad.add i, rfl, fun j u hu => ?_⟩
  have hj : j < m := by
    rcases Nat.lt_or_ge j m with h | h
    · exact h
    · have e : (Bs ((l.drop i).take m))[j]? = none := List.getElem?_eq_none (by rw [Bs_length, List.length_take, List.length_drop]; omega)
      rw [e] at hu; cases hu
  have := hc (i + j) u (by
    rw [← hu]
    simp [Bs, hj, List.getElem?_drop])
  have ha : (ad.add i).add j = ad.add (i + j) := by
    unfold Addr.add
    by_cases h1 : i = 0 <;> by_cases h2 : j = 0 <;> simp [h1, h2, Nat.add_assoc]
  rw [ha]
  exact this
theorem mid_block {A : Option Addr} {k hb : Nat} (h : ∀ ad, A = some ad → ad.block < hb) : ∀ ad, Option.map (fun x => x.add k) A = some ad → ad.block < hb := by
  intro ad e
  cases A with
  | none => cases e
  | some a =>
    have h1 := h a rfl
    have e1 : a.add k = ad := Option.some.inj e
    have e2 : (a.add k).block = a.block := by unfold Addr.add; split <;> rfl
    rw [← e1, e2]
    exact h1
/-- The text, and what of it was put. -/
def AllIn (W : World) (bb hb g : Nat) (A : Option Addr) (q c : Nat) (l : List UInt8) (k : Nat) (wr : World) : Prop :=
  RowQ wr bb 5 1 (.slice A q c) q (Bs l) ∧ (∃ v, HashAt wr hb g (absorb st0 (l.take k)).1 v (absorb st0 (l.take k)).2 k) ∧ Below W.heap.size W wr ∧ (∀ ad, A = some ad → ad.block < hb) ∧ W.heap.size ≤ hb ∧ hb ≤ wr.heap.size
theorem AllIn.below {W : World} {bb hb g : Nat} {A : Option Addr} {q c : Nat} {l : List UInt8} {k : Nat} {wr w : World} (h : AllIn W bb hb g A q c l k wr) (h1 : Below wr.heap.size wr w) : AllIn W bb hb g A q c l k w := by
  obtain ⟨hr, ⟨v, hv⟩, hb', ha, h2, h3⟩ := h
  exact ⟨hr.below h1, ⟨v, hv.1.below h1, hv.2.1.below h1, hv.2.2⟩, hb'.trans (h1.mono hb'.size), ha, h2, Nat.le_trans h3 h1.size⟩
theorem allPut {W : World} {bb hb g : Nat} {A : Option Addr} {q c : Nat} {l : List UInt8} {k m : Nat} {wr : World} (h : AllIn W bb hb g A q c l k wr) (hkm : k + m ≤ q) (hq : q ≤ 300) (A' : Option Addr) (c' : Nat)
    (hs : Src wr 1 A' m (Bs ((l.drop k).take m))) (hA : ∀ ad, A' = some ad → ad.block < hb) :
    Calls Tryz.prog 25 #[.pointer (some ⟨g, 0, none⟩), .slice A' m c'] wr fun e w' => e = .returned (.tuple #[]) ∧ AllIn W bb hb g A q c l (k + m) w' := by
  obtain ⟨hr, ⟨v, hv⟩, hb', ha, h2, h3⟩ := h
  have hl : l.length = q := by have := hr.1; simpa using this
  have hlt := hv.2.1.lt
  have hg := hv.2.2.2
  refine (put_any wr hb g _ v _ k A' m c' _ hv hs (fun ad e => by have := hA ad e; omega) (by omega) (by omega) (by rw [absorb_mod]; omega) h3).mono ?_
  rintro e w' ⟨he, v', hv', hk, _⟩
  rw [absorb_state l k m (by omega)] at hv'
  have hv2 : HashAt w' hb g (absorb st0 (l.take (k + m))).1 v' (absorb st0 (l.take (k + m))).2 ((k + m : Nat) : Int) := by
    have e2 : ((k : Int) + (m : Int)) = ((k + m : Nat) : Int) := by omega
    rw [e2] at hv'
    exact hv'
  refine ⟨he, hr.of_block fun j hj => hk.block j (hr.lt j hj).2 ?_ ?_, ⟨v', hv2⟩, ?_, ha, h2, Nat.le_trans h3 hk.size⟩
  · intro e2
    cases A with
    | none => cases hj
    | some ad => have := ha ad rfl; have : ad.block = j := Option.some.inj hj; omega
  · intro e2
    have h5 := (hlt j e2.symm).1
    cases A with
    | none => cases hj
    | some ad => have := ha ad rfl; have : ad.block = j := Option.some.inj hj; omega
  · exact ⟨hk.os.trans hb'.os, hk.tape.trans hb'.tape, hk.output.trans hb'.output, Nat.le_trans hb'.size hk.size, fun j hj => (hk.block j (by omega) (by omega) (fun e => by have := (hlt j e.symm).1; omega)).trans (hb'.block j hj)⟩
theorem allSum {W : World} {bb hb g : Nat} {A : Option Addr} {q c : Nat} {l : List UInt8} {k : Nat} {wr w : World} (h : AllIn W bb hb g A q c l k wr) (hk : k ≤ q) (hq : q ≤ 300) (h1 : Below wr.heap.size wr w) :
    Calls Tryz.prog 26 #[.pointer (some ⟨g, 0, none⟩)] w fun e w' => e = .returned (.agg (Bs (sha256 (l.take k))).toArray) ∧ Below w.heap.size w w' := by
  obtain ⟨hr, ⟨v, hv⟩, _⟩ := h.below h1
  have hl : l.length = q := by have := hr.1; simpa using this
  have hd := digest_absorb (l.take k)
  have hll : (l.take k).length = k := by rw [List.length_take]; omega
  rw [hll] at hd
  rw [← hd]
  exact sum_any w hb g _ v _ k hv (by omega) (by rw [absorb_mod]; omega)
set_option maxRecDepth 20000 in
set_option maxHeartbeats 8000000 in
theorem shaAll_any (W : World) (A : Option Addr) (n c : Nat) (bs : List UInt8) (hs : Src W 1 A n (Bs bs)) (hc : n ≤ c) (hm : c ≤ maxLen)
    (B : Option Addr) (n2 c2 : Nat) (zs : List Int) (hz : Src W 1 B n2 (zs.map (Value.int .i64))) (hc2 : n2 ≤ c2) (hzl : zs.length = n2) (hG : Gl W) :
    Calls Tryz.prog 3 #[.slice A n c, .slice B n2 c2] W fun e W' => e = .returned (.bool true) ∧ Below W.heap.size W W' := by
  have hbe := begun_any W hG
  have HB := Lib.hid hbe
  obtain ⟨q, hq⟩ : ∃ q : Nat, q = min n 300 := ⟨_, rfl⟩
  have hmin : min (n : Int) 300 = (q : Int) := by omega
  have hqc : (q : Int) ≤ (c : Int) := by omega
  have SQ := Lib.hid (hs.take q (by omega))
  have HC := Lib.hid hc
  have HM := Lib.hid hm
  have HQ := Lib.hid hq
  have ZZ := Lib.hid hz
  have ZL := Lib.hid hzl
  have ZC := Lib.hid hc2
  obtain ⟨l, hl⟩ : ∃ l, l = bs.take q := ⟨_, rfl⟩
  have hbt : (Bs bs).take q = Bs l := by rw [hl]; simp [Bs]
  clear hbe hG hs hc hm hq hl hz hzl hc2
  go_enter Tryz.func3, Tryz.ntmps3
  go_upto_region 4 with (first
      | (go_at_call 23; refine HB.out.mono ?_; rintro e w1 ⟨rfl, hb⟩; have L1 := Lib.hid hb; clear hb))
  go_upto_region 6 with (first
    | (at_builtin; refine wpl_append rfl (.const (.slice none 0 0)) (.tmp 17) 22 rfl w1.heap.size 5 (.int .u8 0) 1 1 Tryz.underlying22 Tryz.info5 rfl (by decide) (.slice none 0 0) 0 [] rfl (RowQ.nil _ _ _ _) A q c ((Bs bs).take q) rfl (src_below SQ.out L1.out) (by have := HQ.out; omega) (by have := HQ.out; omega) (Nat.le_refl _) ?_; intro v1 w2 hr1 hg1 _; rw [Nat.zero_add, List.nil_append, hbt] at hr1; obtain ⟨A1, c1, rfl, _, _⟩ := hr1.shape; have R1 := Lib.hid hr1; have L2 : Hid (Below W.heap.size W w2) := L1.out.grown hg1 L1.out.size (by intro k hk; simp [Value.ownBlock] at hk); clear hr1 hg1)
    | (go_at_call 24; refine (new_any w2).mono ?_; rintro e w5 ⟨g, rfl, hg, hH, hb⟩; have G5 := Lib.hid hg; have H5 := Lib.hid hH; have B5 := Lib.hid hb; clear hg hH hb))
  have hlen : l.length = q := by have := R1.out.1; simpa using this
  have hq300 : q ≤ 300 := by have := HQ.out; omega
  have A0 : AllIn W w1.heap.size w2.heap.size g A1 q c1 l 0 w5 :=
    ⟨R1.out.below B5.out, ⟨.slice none 0 0, by rw [List.take_zero, absorb_short st0 [] (by simp)]; exact H5.out⟩, L2.out.trans (B5.out.mono L2.out.size), fun ad e => (R1.out.ad ad e).2, L2.out.size, B5.out.size⟩
  have AA := Lib.hid A0
  have HL := Lib.hid hlen
  have HQ3 := Lib.hid hq300
  have hq1 : (q : Int) ≤ (c1 : Int) := by obtain ⟨A9, c9, e, h9, _⟩ := R1.out.shape; injection e with _ _ e; omega
  clear A0 hlen hq300 hqc G5 H5 B5 R1
  go_wp2
  go_loopw [7, 8] (fun a i wr => ∃ k j : Nat, k ≤ q ∧ a = .int .i64 k ∧ j ≤ n2 ∧ j ≤ 6 ∧ i = .int .i64 j ∧ AllIn W w1.heap.size w2.heap.size g A1 q c1 l k wr) (fun _ i _ => 6 - (intOf i).toNat)
  case atStart => exact ⟨0, 0, by omega, rfl, by omega, by omega, rfl, AA.out⟩
  case round =>
    obtain ⟨k, j, hk, rfl, hj, hj6, rfl, hA⟩ := hrel
    clear AA
    have hq3 := HQ3.out
    have hkq : (k : Int) ≤ (q : Int) := by omega
    by_cases hlt : j < n2 ∧ j < 6
    · obtain ⟨j1, j2⟩ := hlt
      obtain ⟨ad, hBB, hcs⟩ := (src_below ZZ.out hA.2.2.1).2.1 (by omega)
      subst hBB
      have hcell : wr.cell? (ad.add j) = some (.int .i64 (zs.getD j 0)) := hcs j _ (by simp [List.getD_eq_getElem?_getD, show j < zs.length by rw [ZL.out]; exact j1])
      generalize zs.getD j 0 = z at hcell
      obtain ⟨n0, hn0, he0⟩ := tmod_round z 100 (by omega) (by omega)
      obtain ⟨m, hm⟩ : ∃ m : Nat, min (n0 : Int) ((q : Int) - (k : Int)) = (m : Int) := ⟨min n0 (q - k), by omega⟩
      have hkm : k + m ≤ q := by omega
      have k3 : (k : Int) + (m : Int) ≤ (q : Int) := by omega
      have k4 : (k : Int) + (m : Int) ≤ (c1 : Int) := by omega
      have m0 : (0 : Int) ≤ (m : Int) := by omega
      have l1 : (j : Int) < (n2 : Int) := by omega
      have l2 : (j : Int) < 6 := by omega
      have l3 : (n2 : Int) ≤ (c2 : Int) := by have := ZC.out; omega
      have AK := Lib.hid hA
      have KM := Lib.hid hkm
      clear hA hcs hkm
      go_upto_region 13 with fail
      clear he0 hn0
      go_upto_region 14 with fail
      rcases Decidable.em (c1 = k) with hck | hck
      all_goals
        go_wp2_with fail
        have sm := AK.out.1.mid k m KM.out
        first | rw [if_pos hck] at sm | rw [if_neg hck] at sm
        have hbk : ∀ ad, (if c1 = k then A1 else Option.map (fun x => x.add k) A1) = some ad → ad.block < w2.heap.size := fun ad e => by
          rcases Decidable.em (c1 = k) with h | h
          · rw [if_pos h] at e; exact AK.out.2.2.2.1 ad e
          · rw [if_neg h] at e; exact mid_block AK.out.2.2.2.1 ad e
        first | rw [if_pos hck] at hbk | rw [if_neg hck] at hbk
        refine (allPut AK.out KM.out hq3 _ _ sm hbk).mono ?_
        rintro e w6 ⟨rfl, hA6⟩
        clear hck sm hbk hcell AK
        obtain ⟨r, hr⟩ : ∃ r : Nat, r = k + m := ⟨_, rfl⟩
        rw [← hr] at hA6
        have hrq : r ≤ q := by have := KM.out; omega
        have r1 : (k : Int) + (m : Int) = (r : Int) := by omega
        have r2 : (r : Int) ≤ (c1 : Int) := by omega
        have A6 := Lib.hid hA6
        have HRQ := Lib.hid hrq
        have hll : (l.take r).length = r := by rw [List.length_take, HL.out]; omega
        have HLL := Lib.hid hll
        have hsl := sha256_length (l.take r)
        have hne : ∀ w, (binOp .neq 28 (.agg (Bs (sha256 (l.take r))).toArray) (.agg (Bs (sha256 (l.take r))).toArray)).run Tryz.prog w = .ok (.bool false) w := fun w => by
          rw [run_neq_struct, eqIn_bytes w _ Tryz.underlying28 _ _ hsl hsl, decide_eq_true rfl]; rfl
        have hcv : ∀ s : Ext w6, (convert 22 9 (.slice A1 r c1)).run Tryz.prog s.at_ = .ok (.string ⟨(l.take r).toArray⟩) s.at_ := fun s => run_str _ _ _ _ _ (by
          have := ((A6.out.1.below s.below).src (Bs_one _)).take r HRQ.out
          have e : (Bs l).take r = Bs (l.take r) := by simp [Bs]
          rwa [e] at this)
        have hemp := ext_nonempty w6
        have HR := Lib.hid hr
        clear hA6 hrq hll hsl hr hm
        go_wp2
        refine wp_region_ext (by kernel_rfl) (by kernel_rfl) ?_
        repeat (go_big_quiet_step (first
          | (go_at_call 26; exact Ext.call (allSum A6.out HRQ.out hq3 (Ext.below _)))
          | (go_at_call 27; exact Ext.call (refSum_any _ ⟨(l.take r).toArray⟩ (l.take r) rfl r HLL.out (by omega)))))
        refine wpQuiet_nil ?_
        rintro _ ⟨s9, rfl⟩
        go_wp2
        go_roundw
        case measure => simp [intOf]; omega
        case rel => exact ⟨r, j + 1, HRQ.out, rfl, by omega, by omega, by go_num, A6.out.below s9.below⟩
    · have hg : ((j : Int) < (n2 : Int) ∧ j = 6) ∨ j = n2 := by omega
      clear hlt ZZ
      obtain ⟨m, hm⟩ : ∃ m, q = k + m := ⟨q - k, by omega⟩
      have k4 : (k : Int) ≤ (c1 : Int) := by omega
      have AK := Lib.hid hA
      have HMM := Lib.hid hm
      have hdrop : (l.drop k).take m = l.drop k := List.take_of_length_le (by rw [List.length_drop, HL.out]; omega)
      have hqm : (q : Int) - (k : Int) = (m : Int) := by omega
      have hqm2 : q - k = m := by omega
      have HD := Lib.hid hdrop
      clear hA hm hdrop
      rcases hg with ⟨g1, rfl⟩ | rfl
      all_goals
        go_upto_region 18 with fail
        rcases Decidable.em (c1 = k) with hck | hck
        all_goals
          go_wp2_with fail
          have sm := AK.out.1.mid k m (by have := HMM.out; omega)
          first | rw [if_pos hck] at sm | rw [if_neg hck] at sm
          have hbk : ∀ ad, (if c1 = k then A1 else Option.map (fun x => x.add k) A1) = some ad → ad.block < w2.heap.size := fun ad e => by
            rcases Decidable.em (c1 = k) with h | h
            · rw [if_pos h] at e; exact AK.out.2.2.2.1 ad e
            · rw [if_neg h] at e; exact mid_block AK.out.2.2.2.1 ad e
          first | rw [if_pos hck] at hbk | rw [if_neg hck] at hbk
          try rw [hqm2]
          refine (allPut AK.out (by have := HMM.out; omega) hq3 _ _ sm hbk).mono ?_
          rintro e w6 ⟨rfl, hA6⟩
          clear hck sm hbk AK
          rw [← HMM.out] at hA6
          have A6 := Lib.hid hA6
          have htq : l.take q = l := List.take_of_length_le (by rw [HL.out]; omega)
          have hsl := sha256_length l
          have heq : ∀ w, (binOp .eql 28 (.agg (Bs (sha256 l)).toArray) (.agg (Bs (sha256 l)).toArray)).run Tryz.prog w = .ok (.bool true) w := fun w => by
            rw [run_eql_struct, eqIn_bytes w _ Tryz.underlying28 _ _ hsl hsl, decide_eq_true rfl]; rfl
          have hcv : ∀ s : Ext w6, (convert 22 9 (.slice A1 q c1)).run Tryz.prog s.at_ = .ok (.string ⟨l.toArray⟩) s.at_ := fun s => run_str _ _ _ _ _ ((A6.out.1.below s.below).src (Bs_one _))
          have cS : ∀ s : Ext w6, Calls Tryz.prog 26 #[.pointer (some ⟨g, 0, none⟩)] s.at_ fun e w' => e = .returned (.agg (Bs (sha256 l)).toArray) ∧ Below s.at_.heap.size s.at_ w' := fun s => by
            have := allSum A6.out (Nat.le_refl q) hq3 s.below
            rwa [htq] at this
          have CS := Lib.hid cS
          have hemp := ext_nonempty w6
          clear hA6 htq hsl cS
          go_wp2
          refine wp_region_ext (by kernel_rfl) (by kernel_rfl) ?_
          repeat (go_big_quiet_step (first
            | (go_at_call 26; exact Ext.call (CS.out _))
            | (go_at_call 28; exact Ext.call (shaSum_any _ _ q c1 l ((A6.out.1.below (Ext.below _)).src (Bs_one _)) (fun ad e => Nat.lt_of_lt_of_le (A6.out.2.2.2.1 ad e) (Nat.le_trans A6.out.2.2.2.2.2 (Ext.below _).size)) (by omega)))
            | (go_at_call 27; exact Ext.call (refSum_any _ ⟨l.toArray⟩ l rfl q HL.out (by omega)))))
          refine wpQuiet_nil ?_
          rintro _ ⟨s9, rfl⟩
          go_wp2
          go_ret
          exact ⟨rfl, (A6.out.below s9.below).2.2.1⟩
end Go.Proofs.YtpfoohfgochaiaaGreatDoor
