/- ref5.MayCommit: may it be a commit? -/
import Derived.Test.YtpbnigpdpkfpaaaGreatDoorP11x
import Derived.Test.YtpbnigpdpkfpaaaGreatDoorMd
import Derived.Test.YtpbnigpdpkfpaaaGreatDoorP6x
import Derived.Test.YtpbnigpdpkfpaaaGreatDoorP3x
namespace Go.Proofs.YtpbnigpdpkfpaaaGreatDoor
open Go.RowKit
theorem upto_ids (w : World) (A : Option Addr) (m c k : Nat) (hk : k ≤ c) :
    (Instr.sliceAt 25 (.slice A m c) none (some (.int .i64 k)) none).run Tryz.prog w = .ok (.slice A k c) w := by
  simp [Instr.sliceAt, Instr.slice, Instr.sliceBounds, Instr.sliceBound, go_sem]
  exact fun h => absurd h (by omega)
set_option maxRecDepth 20000 in
set_option maxHeartbeats 6400000 in
theorem rmayC_any (W : World) (c : Com) (B : Option Addr) (m d : Nat) (h : ComAt W c B m d) (hm : m ≤ 1099511627776) :
    Calls Tryz.prog 69 #[.agg (comL c B m d).toArray] W fun e W' => e = .returned (.bool (mayC c)) ∧ Below W.heap.size W W' := by
  have LN := Lib.hid h.len
  obtain ⟨nb, hnb⟩ : ∃ nb : ByteArray, nb = ⟨c.note.toArray⟩ := ⟨_, rfl⟩
  have l0 := (Below.refl W.heap.size W).alloc (Nat.le_refl _) (.cells (comL c B m d).toArray 28)
  have k0 := ComBlk.of (Blk.new W 28 (comL c B m d))
  rw [← hnb] at k0
  obtain ⟨w0, hw0⟩ : ∃ w0, w0 = W.alloc (.cells (comL c B m d).toArray 28) := ⟨_, rfl⟩
  rw [← hw0] at l0 k0
  have s0 := srcI_below h.row l0
  have hcap := h.cap
  have L0 := Lib.hid l0
  have K0 := Lib.hid k0
  have S0 := Lib.hid s0
  have HCAP := Lib.hid hcap
  have HM := Lib.hid hm
  have NB := Lib.hid hnb
  have cF := fun w => rmay_any w c.wh h.bits
  have CF := Lib.hid cF
  have m9 : (m : Int) ≤ 1099511627776 := by omega
  obtain ⟨cs, hcs⟩ : ∃ cs, cs = comL c B m d := ⟨_, rfl⟩
  rw [← hcs] at hw0 ⊢
  clear h hm l0 k0 s0 hcap hnb cF hcs
  obtain ⟨g, hg⟩ : ∃ g, g = W.heap.size := ⟨_, rfl⟩
  rw [← hg] at K0
  go_enter Tryz.func69, Tryz.ntmps69
  go_upto_region 1 with fail
  change Code.wp _ _ _ _ (W.alloc (.cells cs.toArray 28))
  rw [← hw0, ← hg]
  clear hw0 hg
  go_wp2
  go_loopw [3] (fun i wr => ∃ k : Nat, k ≤ m ∧ i = .int .i64 k ∧ Below w0.heap.size w0 wr ∧ ∀ j, j < k → c.ps[j]! ∉ c.ps.take j) (fun i _ => m - (intOf i).toNat)
  case atStart => exact ⟨0, by omega, rfl, Below.refl _ _, fun j h => absurd h (Nat.not_lt_zero j)⟩
  case round =>
    obtain ⟨k, hk, rfl, hb, hall⟩ := hrel
    have BR := Lib.hid hb
    have HALL := Lib.hid hall
    have p2 := (K0.out.below BR.out).ps
    have hln := LN.out
    by_cases hlt : k < m
    · have k1 : (k : Int) < (m : Int) := by omega
      have kd : k ≤ d := by have := HCAP.out; omega
      have q1 : ∀ s : Ext wr, s.at_.cell? ⟨g, 32, none⟩ = some (.slice B m d) := fun s => (K0.out.below (BR.out.trans (s.below.mono BR.out.size))).ps
      have sl1 := fun w => upto_ids w B m d k kd
      have hs : ∀ s : Ext wr, Src s.at_ 32 B m (rowI c.ps) := fun s => srcI_below S0.out (BR.out.trans (s.below.mono BR.out.size))
      have cH : ∀ s : Ext wr, Calls Tryz.prog 128 #[.slice B k d, .agg (encI c.ps[k]!).toArray] s.at_ fun e w' => e = .returned (.bool (decide (c.ps[k]! ∈ c.ps.take k))) ∧ Below s.at_.heap.size s.at_ w' := fun s =>
        rhas_any s.at_ B k d (c.ps.take k) (srcI_take (hs s) k (by omega)) (by have := HM.out; omega) c.ps[k]!
      obtain ⟨_, b, o, rfl, _⟩ := src_names (srcI_below S0.out BR.out) (by omega)
      have c1 : ∀ w', (∃ s : Ext wr, w' = s.at_) → ∀ j v, (encI c.ps[k]!)[j]? = some v → w'.cell? ((⟨b, o + k * 32, none⟩ : Addr).add j) = some v := fun w' ⟨s, hw⟩ j v hv => by
        subst hw
        obtain ⟨_, b3, o3, e3, ct3⟩ := src_names (hs s) (by omega)
        injection e3 with e3
        injection e3 with e4 e5 _
        subst e4; subst e5
        exact at_name (ct3 k hlt) j v hv
      have pI := infoId c.ps[k]!
      obtain ⟨r, hr⟩ : ∃ r, r = decide (c.ps[k]! ∈ c.ps.take k) := ⟨_, rfl⟩
      rw [← hr] at cH
      have HRR := Lib.hid hr
      generalize encI c.ps[k]! = pc at c1 cH pI
      have CH := Lib.hid cH
      have C1 := Lib.hid c1
      have PI := Lib.hid pI
      have HLT := Lib.hid hlt
      have LE := Lib.hid (L0.out.trans (BR.out.mono L0.out.size))
      have hemp := ext_nonempty wr
      clear c1 cH pI hs hr hlt hk hb hall hln kd
      go_upto_region 4 with fail
      refine wp_region_ext (by kernel_rfl) (by kernel_rfl) ?_
      repeat (first
        | quiet_step ((go_at_call 128; exact Ext.call (CH.out _)))
        | go_big_quiet_step ((go_at_call 128; exact Ext.call (CH.out _)))
        | (refine wpQuiet_loadS (by rfl) 24 (.tmp 18) rfl ⟨b, o + k * 32, none⟩ rfl pc Tryz.isAgg24 PI.out C1.out ?_))
      refine wpQuiet_nil ?_
      rintro _ ⟨s9, rfl⟩
      cases r
      · go_wp2
        go_roundw
        case measure => simp [intOf]; have := HLT.out; omega
        case rel =>
          refine ⟨k + 1, HLT.out, by go_num, BR.out.trans (s9.below.mono BR.out.size), fun j hj => ?_⟩
          by_cases h : j < k
          · exact HALL.out j h
          · have : j = k := by omega
            subst this
            exact of_decide_eq_false HRR.out.symm
      · have hmay : mayC c = false := by
          have h1 := sortI_twice c.ps k (by have := LN.out; have := HLT.out; omega) (of_decide_eq_true HRR.out.symm)
          unfold mayC
          rw [decide_eq_false h1]
          simp
        have HMAY := Lib.hid hmay
        clear hmay
        go_wp2
        go_ret
        exact ⟨by rw [HMAY.out]; rfl, LE.out.trans (s9.below.mono LE.out.size)⟩
    · have : k = m := by omega
      subst this
      have hns : (sortI c.ps).length = k := by
        have := sortI_new c.ps k (by omega) hall
        rwa [List.take_of_length_le (by omega)] at this
      have hmay := mayC_eq c k k hln hns nb NB.out
      rw [decide_eq_true (rfl : k = k), Bool.and_true] at hmay
      obtain ⟨fm, hfm⟩ : ∃ fm, fm = fmay c.wh := ⟨_, rfl⟩
      have p3 := (K0.out.below BR.out).wh
      have p4 := (K0.out.below BR.out).note
      have C2 := CF.out
      rw [← hfm] at hmay C2
      have C3 := Lib.hid C2
      have LE := Lib.hid (L0.out.trans (BR.out.mono L0.out.size))
      have K4 := Lib.hid (fun n => K0.out.below (below_drewN' BR.out n))
      have q4 : ∀ n, (wr.drewN n).cell? ⟨g, 34, none⟩ = some (.string nb) := fun n => (K4.out n).note
      clear hns hall hb hk hlt hfm CF C2 hln
      by_cases h4 : k ≤ 4
      · have h41 : (k : Int) ≤ 4 := by omega
        rw [decide_eq_true h4, Bool.true_and] at hmay
        cases fm
        · have HMAY : Hid (mayC c = false) := Lib.hid (by rw [hmay]; simp)
          clear hmay h4
          go_wp2_with (go_at_call 129; refine (C3.out _).mono ?_; rintro e w9 ⟨rfl, t, rfl⟩)
          go_ret
          exact ⟨by rw [HMAY.out]; rfl, below_drewN' LE.out _⟩
        · by_cases hn : nb.size ≤ 100
          · have HMAY : Hid (mayC c = true) := Lib.hid (by rw [hmay, decide_eq_true hn]; rfl)
            have hn1 : (nb.size : Int) ≤ 100 := by omega
            clear hmay h4 hn
            go_wp2_with (go_at_call 129; refine (C3.out _).mono ?_; rintro e w9 ⟨rfl, t, rfl⟩)
            go_ret
            exact ⟨by rw [HMAY.out]; rfl, below_drewN' LE.out _⟩
          · have HMAY : Hid (mayC c = false) := Lib.hid (by rw [hmay, decide_eq_false hn]; rfl)
            have hn1 : ¬ (nb.size : Int) ≤ 100 := by omega
            have hn2 : decide ((nb.size : Int) ≤ 100) = false := decide_eq_false hn1
            clear hmay h4 hn
            go_wp2_with (go_at_call 129; refine (C3.out _).mono ?_; rintro e w9 ⟨rfl, t, rfl⟩)
            go_ret
            exact ⟨by rw [HMAY.out]; rfl, below_drewN' LE.out _⟩
      · have h41 : ¬ (k : Int) ≤ 4 := by omega
        have h42 : decide ((k : Int) ≤ 4) = false := decide_eq_false h41
        have HMAY : Hid (mayC c = false) := Lib.hid (by rw [hmay, decide_eq_false h4]; rfl)
        clear hmay h4
        go_wp2
        go_ret
        exact ⟨by rw [HMAY.out]; rfl, LE.out⟩
end Go.Proofs.YtpbnigpdpkfpaaaGreatDoor
