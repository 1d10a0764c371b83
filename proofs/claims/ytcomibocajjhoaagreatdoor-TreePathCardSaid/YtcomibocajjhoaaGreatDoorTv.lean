/- TreePath: parts of a path, joined, are the path: the law's walk. -/
import Derived.Test.YtcomibocajjhoaaGreatDoorBn
import Derived.Test.YtcomibocajjhoaaGreatDoorNp
import Derived.Test.YtcomibocajjhoaaGreatDoorP14x
import Derived.Test.YtcomibocajjhoaaGreatDoorP9x
import Derived.Test.YtcomibocajjhoaaGreatDoorLr
namespace Go.Proofs.YtcomibocajjhoaaGreatDoor
open Go.RowKit
theorem cut25 {L : List (List UInt8)} (h : (L.map (·.take 25)).all nameB = true) : L.map (·.take 25) = L := by
  induction L with
  | nil => rfl
  | cons a r ih =>
    rw [List.map_cons, List.all_cons, Bool.and_eq_true] at h
    have h1 := nameB_len h.1
    rw [List.length_take] at h1
    rw [List.map_cons, ih h.2, List.take_of_length_le (by omega)]
theorem joinS_le (n : Nat) : ∀ L : List (List UInt8), (∀ l ∈ L, l.length ≤ n) → (joinS 47 L).length ≤ L.length * (n + 1)
  | [], _ => by simp [joinS]
  | [l], h => by
    have := h l (by simp)
    show l.length ≤ _
    simp
    omega
  | l :: m :: r, h => by
    have h1 := h l (by simp)
    have h2 := joinS_le n (m :: r) fun x hx => h x (List.mem_cons_of_mem _ hx)
    rw [joinS_cons 47 l (List.cons_ne_nil m r), List.length_append, List.length_cons, List.length_cons (a := l), Nat.succ_mul]
    omega
set_option maxRecDepth 20000 in
set_option maxHeartbeats 6400000 in
theorem treePathLaw_any (W : World) (A : Option Addr) (n c : Nat) (ts : List (List UInt8)) (hs : Src W 1 A n (Ss ts)) (hc : n ≤ c) (hG : Gl W) (hE : Ge W) :
    Calls Tryz.prog 7 #[.slice A n c] W fun e W' => e = .returned (.bool true) ∧ Below W.heap.size W W' := by
  obtain ⟨q, hq⟩ : ∃ q : Nat, q = min n 5 := ⟨_, rfl⟩
  have hmin : min (n : Int) 5 = (q : Int) := by omega
  have hqc : (q : Int) ≤ (c : Int) := by omega
  have hq5 : q ≤ 5 := by omega
  have htl : ts.length = n := by have := hs.1; simpa using this
  obtain ⟨us, hus⟩ : ∃ us, us = ts.take q := ⟨_, rfl⟩
  have hul : us.length = q := by rw [hus, List.length_take]; omega
  obtain ⟨xs, hxs⟩ : ∃ xs, xs = us.map (·.take 25) := ⟨_, rfl⟩
  have hxl : xs.length = q := by rw [hxs, List.length_map, hul]
  have hsq : ∀ w, Below W.heap.size W w → ∀ k, k < q → ∃ ad, A = some ad ∧ w.cell? (ad.add k) = some (.string ⟨(us.getD k []).toArray⟩) := fun w hw k hk => by
    obtain ⟨ad, hA, hcs⟩ := (src_below hs hw).2.1 (by omega)
    refine ⟨ad, hA, hcs k _ ?_⟩
    have h1 : k < ts.length := by omega
    have h2 : k < us.length := by omega
    have h3 : us[k] = ts[k] := by simp [hus]
    simp [Ss, List.getD_eq_getElem?_getD, h1, h2, h3]
  have hx25 : ∀ l ∈ xs, l.length ≤ 25 := fun l hl => by
    rw [hxs] at hl
    obtain ⟨u, _, rfl⟩ := List.mem_map.1 hl
    exact List.length_take_le _ _
  have cB := begun6_any W hG hE
  have CB := Lib.hid cB
  have HG := Lib.hid hG
  have SQ := Lib.hid hsq
  have XL := Lib.hid hxl
  have UL := Lib.hid hul
  have XS := Lib.hid hxs
  have X25 := Lib.hid hx25
  have Q5 := Lib.hid hq5
  have h0q : (0 : Int) ≤ (q : Int) := by omega
  clear cB hG hE hsq hxl hul hxs hx25 hq5 hus htl hs hq hc
  clear h0q
  go_enter Tryz.func7, Tryz.ntmps7
  go_upto_region 7 with (go_at_call 11; refine CB.out.mono ?_; rintro e w1 ⟨rfl, hb⟩; have B1 := Lib.hid hb; clear hb)
  clear CB
  have HG1 := Lib.hid (HG.out.below B1.out)
  go_loopw [4, 5, 23] (fun s b i wr => ∃ (k : Nat) (y : ByteArray), k ≤ q ∧ i = .int .i64 k ∧ s = .string y ∧ y.data.toList = joinS 47 (xs.take k) ∧ b = .bool ((xs.take k).all nameB) ∧ wr = w1) (fun _ _ i _ => q - (intOf i).toNat)
  case atStart => exact ⟨0, ⟨#[]⟩, Nat.zero_le _, rfl, rfl, rfl, rfl, rfl⟩
  case round =>
    obtain ⟨k, y, hk, rfl, rfl, hy, rfl, hw⟩ := hrel
    have hw1 := hw.symm
    subst hw1
    clear hw
    by_cases hlt : k < q
    · have k1 : (k : Int) < (q : Int) := by omega
      obtain ⟨ad, rfl, hcell⟩ := SQ.out _ B1.out k hlt
      obtain ⟨u, hu⟩ : ∃ u : ByteArray, u = ⟨(us.getD k []).toArray⟩ := ⟨_, rfl⟩
      rw [← hu] at hcell
      obtain ⟨x, hx⟩ : ∃ x : ByteArray, x = ⟨((us.getD k []).take 25).toArray⟩ := ⟨_, rfl⟩
      have hxk : k < xs.length := by rw [XL.out]; exact hlt
      have hxd : (us.getD k []).take 25 = xs[k] := by
        have : k < us.length := by rw [UL.out]; exact hlt
        simp only [XS.out, List.getElem_map, List.getD_eq_getElem?_getD, List.getElem?_eq_getElem this, Option.getD_some]
      have cT : ∀ w, Calls Tryz.prog 20 #[.string u, .int .i64 25] w fun e w' => e = .returned (.string x) ∧ w' = w := fun w => by rw [hx, hu]; exact text_cut w ⟨(us.getD k []).toArray⟩ 25
      have hxdl : x.data.toList = xs[k] := by rw [hx]; exact hxd
      have cN := fun w => refName_any w x xs[k] hxdl.symm (by rw [ba_size, hxdl]; exact Nat.le_trans (X25.out _ (List.getElem_mem hxk)) (by decide))
      have hall : (xs.take (k + 1)).all nameB = ((xs.take k).all nameB && nameB xs[k]) := by
        rw [List.take_succ_eq_append_getElem hxk, List.all_append]
        simp
      have ht1 : xs.take (k + 1) = xs.take k ++ [xs[k]] := List.take_succ_eq_append_getElem hxk
      have hj0 : k = 0 → (y ++ x).data.toList = joinS 47 (xs.take (k + 1)) := fun h => by
        rw [ba_append, hy, hxdl, ht1]
        subst h
        simp [joinS]
      have hj1 : 0 < k → ((y ++ (⟨#[47]⟩ : ByteArray)) ++ x).data.toList = joinS 47 (xs.take (k + 1)) := fun h => by
        rw [ht1, joinS_snoc 47 (xs.take k) (fun e => by have := congrArg List.length e; rw [List.length_take, List.length_nil] at this; omega), ba_append, ba_append, hy, hxdl]
        simp
      have y0 : y.size ≤ 130 := by
        have h1 := joinS_le 25 (xs.take k) fun l hl => X25.out l (List.mem_of_mem_take hl)
        rw [List.length_take] at h1
        have := Q5.out
        rw [ba_size, hy]
        omega
      have x0 : x.size ≤ 25 := by rw [ba_size, hxdl]; exact X25.out _ (List.getElem_mem hxk)
      have CT := Lib.hid cT
      have CN := Lib.hid cN
      have AL := Lib.hid hall
      have J0 := Lib.hid hj0
      have J1 := Lib.hid hj1
      have HLT := Lib.hid hlt
      generalize nameB xs[k] = nb at CN AL
      generalize (xs.take k).all nameB = ab at AL ⊢
      clear cT cN hall ht1 hj0 hj1 hxd hxdl hx hu hlt hk hy hxk
      by_cases hk0 : k = 0
      · have k0 : ¬ ((k : Int) > 0) := by omega
        have K0 := Lib.hid hk0
        clear hk0
        cases ab
        all_goals
          go_wp2_with (first
            | (go_at_call 20; refine (CT.out _).mono ?_; rintro e w' ⟨rfl, hw⟩; replace hw := hw.symm; subst hw)
            | (go_at_call 21; refine (CN.out _).mono ?_; rintro e w' ⟨rfl, hw⟩; replace hw := hw.symm; subst hw))
          go_roundw
          case measure => simp [intOf]; have := HLT.out; omega
          case rel => exact ⟨k + 1, _, HLT.out, by go_num, rfl, J0.out K0.out, by rw [AL.out]; first | rfl | simp, by first | trivial | rfl⟩
      · have k0 : (k : Int) > 0 := by omega
        have K0 := Lib.hid (show 0 < k by omega)
        clear hk0
        cases ab
        all_goals
          go_wp2_with (first
            | (go_at_call 20; refine (CT.out _).mono ?_; rintro e w' ⟨rfl, hw⟩; replace hw := hw.symm; subst hw)
            | (go_at_call 21; refine (CN.out _).mono ?_; rintro e w' ⟨rfl, hw⟩; replace hw := hw.symm; subst hw))
          go_roundw
          case measure => simp [intOf]; have := HLT.out; omega
          case rel => exact ⟨k + 1, _, HLT.out, by go_num, rfl, J1.out K0.out, by rw [AL.out]; first | rfl | simp, by first | trivial | rfl⟩
    · have hkq : k = q := by omega
      have hk1 : ¬ ((k : Int) < (q : Int)) := by omega
      have hxt : xs.take k = xs := by rw [hkq, ← XL.out, List.take_length]
      rw [hxt] at hy ⊢
      obtain ⟨l, hl⟩ : ∃ l, l = joinS 47 xs := ⟨_, rfl⟩
      rw [← hl] at hy
      have hyz : y.size < 4294967281 := by
        have := joinS_le 25 xs X25.out
        rw [← hl, XL.out] at this
        have := Q5.out
        rw [ba_size, hy]
        omega
      have cP := fun w hw => treePath_any w y l hy.symm hyz hw
      have cR := fun w => rpath_any w y l hy.symm hyz
      subst hkq
      clear hk hlt hxt
      by_cases hl0 : l = []
      · have hy0 : y = ⟨#[]⟩ := ba_ext (by rw [hy, hl0])
        subst hy0
        unfold PathPost at cP
        rw [hl0, show pathV [] = ([], true) from rfl] at cP
        have CP := Lib.hid cP
        clear cP cR hl hl0 hy hyz
        go_wp2_with (go_at_call 22; refine (CP.out _ HG1.out).mono ?_; rintro e w2 ⟨A2, c2, rfl, _, hb⟩; have B2 := Lib.hid (B1.out.trans (hb.mono B1.out.size)); clear hb)
        go_ret
        exact ⟨rfl, B2.out⟩
      · have hne : y.toList.isEmpty = false := by rw [ByteArray.toList_eq, hy]; simpa using hl0
        have hye : (y.toList == (⟨#[]⟩ : ByteArray).toList) = false := by
          rw [ByteArray.toList_eq, hy]
          simpa [ByteArray.toList_eq] using hl0
        by_cases hok : xs.all nameB = true
        · have hp := pathV_join xs (by rw [← hl]; exact hl0) hok
          rw [← hl] at hp
          unfold PathPost at cP
          rw [hp] at cP
          simp only [XL.out] at cP
          have hux : xs = us := by
            have := hok
            rw [XS.out] at this
            rw [XS.out, cut25 this]
          have UX := Lib.hid hux
          have CP := Lib.hid cP
          rw [hok]
          clear cP cR hl hl0 hy hyz hp hok hux
          go_upto_region 22 with (go_at_call 22; refine (CP.out _ HG1.out).mono ?_; rintro e w2 ⟨A2, c2, rfl, hr, hb⟩; have R2 := Lib.hid hr; have B2 := Lib.hid (B1.out.trans (hb.mono B1.out.size)); clear hr hb)
          go_loopw [76] (fun i wx => ∃ j : Nat, j ≤ k ∧ i = .int .i64 j ∧ Below w2.heap.size w2 wx) (fun i _ => k - (intOf i).toNat)
          case atStart => exact ⟨0, Nat.zero_le _, rfl, Below.refl _ _⟩
          case round =>
            obtain ⟨j, hj, rfl, hbj⟩ := hrel
            have BJ := Lib.hid hbj
            have BW := Lib.hid (B2.out.trans (hbj.mono B2.out.size))
            by_cases hjl : j < k
            · have j1 : (j : Int) < (k : Int) := by omega
              obtain ⟨ad, rfl, x1⟩ := SQ.out _ BW.out j hjl
              obtain ⟨ad2, rfl, hc2⟩ := (src_below R2.out hbj).2.1 (by omega)
              obtain ⟨u, hu⟩ : ∃ u : ByteArray, u = ⟨(us.getD j []).toArray⟩ := ⟨_, rfl⟩
              have x2 := hc2 j (.string u) (by
                have h1 : j < us.length := by rw [UL.out]; exact hjl
                rw [UX.out, hu]
                simp [Ss, List.getD_eq_getElem?_getD, h1])
              rw [← hu] at x1
              have JL := Lib.hid hjl
              clear hc2 hu hbj hj hjl
              go_wp2
              go_quiet (fail)
              go_wp2
              go_roundw
              case measure => simp [intOf]; have := JL.out; omega
              case rel => exact ⟨j + 1, JL.out, by go_num, below_drewN' BJ.out _⟩
            · have hjk : j = k := by omega
              have j1 : ¬ ((j : Int) < (k : Int)) := by omega
              clear hj hjl
              go_wp2
              go_ret
              exact ⟨rfl, BW.out⟩
        · have hok' : xs.all nameB = false := by simpa using hok
          rw [hok']
          unfold PathPost at cP cR
          generalize (pathV l).2 = pb at cP cR
          generalize (pathV l).1.length = pn at cP cR
          generalize (pathV l).1 = pl at cP cR
          have CP := Lib.hid cP
          have CR := Lib.hid cR
          clear cP cR hl hl0 hy hyz hok hok'
          cases pb
          all_goals
            go_wp2_with (first
              | (go_at_call 22; refine (CP.out _ HG1.out).mono ?_; rintro e w2 ⟨A2, c2, rfl, _, hb⟩; have B2 := Lib.hid (B1.out.trans (hb.mono B1.out.size)); clear hb)
              | (go_at_call 23; refine (CR.out _).mono ?_; rintro e w3 ⟨A3, c3, rfl, _, hb⟩; have B3 := Lib.hid (B2.out.trans (hb.mono B2.out.size)); clear hb))
            go_ret
            exact ⟨rfl, B3.out⟩
end Go.Proofs.YtcomibocajjhoaaGreatDoor
