/- ref5.GetTree: the document's tree from bytes is the program's. colporteurlaw6.entries: rows of the same entries. TreeAll: entries as bytes, and back; any bytes; names, paths: the law's walk. -/
import Derived.Test.YtcomibocajjhoaaGreatDoorP16x
import Derived.Test.YtcomibocajjhoaaGreatDoorTc
import Derived.Test.YtcomibocajjhoaaGreatDoorP6x
import Derived.Deep.CutBlock
import Derived.Test.YtcomibocajjhoaaGreatDoorP13x
import Derived.Test.YtcomibocajjhoaaGreatDoorEe
import Derived.Test.YtcomibocajjhoaaGreatDoorBn
import Derived.Test.YtcomibocajjhoaaGreatDoorP18x
import Derived.Test.YtcomibocajjhoaaGreatDoorP14x
import Derived.Test.YtcomibocajjhoaaGreatDoorPt
import Derived.Test.YtcomibocajjhoaaGreatDoorP9x
import Derived.Test.YtcomibocajjhoaaGreatDoorP19x
namespace Go.Proofs.YtcomibocajjhoaaGreatDoor
open Go.RowKit
/-- What ref5.GetTree tells. -/
def RGetTPost (W : World) (l : List UInt8) (e : Ending) (W' : World) : Prop := match getT l with
  | some es => ∃ A c, e = .returned (.tuple #[.slice A es.length c, .bool true]) ∧ RowQ W' W.heap.size 39 34 (.slice A es.length c) es.length (entE.row es) ∧ Below W.heap.size W W'
  | none => e = .returned (.tuple #[.slice none 0 0, .bool false]) ∧ Below W.heap.size W W'
theorem oneT_is (xl : List UInt8) : oneT xl = if nmLen (xl.drop 2) + 35 ≤ xl.length ∧ xl.getD 1 0 = 32 ∧ (xl.getD 0 0 = 100 ∨ xl.getD 0 0 = 102) then
    some (⟨(xl.drop 2).take (nmLen (xl.drop 2)), decide (xl.getD 0 0 = 100), idAt (xl.drop 2)⟩, (xl.drop 2).drop (nmLen (xl.drop 2) + 33)) else none := by
  match xl with
  | [] => rfl
  | [c] => rw [if_neg (by simp)]; rfl
  | c :: d :: r =>
    show oneT (c :: d :: r) = if nmLen r + 35 ≤ r.length + 2 ∧ d = 32 ∧ (c = 100 ∨ c = 102) then some (⟨r.take (nmLen r), decide (c = 100), idAt r⟩, r.drop (nmLen r + 33)) else none
    rw [oneT]
    by_cases h : d = 32 ∧ (c = 100 ∨ c = 102) ∧ nmLen r + 33 ≤ r.length
    · rw [if_pos h, if_pos ⟨by omega, h.1, h.2.1⟩]
      rfl
    · rw [if_neg h, if_neg (fun hh => h ⟨hh.2.1, hh.2.2, by omega⟩)]
theorem nm_before {r : List UInt8} {p : Nat} (h : p < nmLen r) : ∃ hp : p < r.length, r[p] ≠ 0 := by
  have hl := nmLen_le r
  have h1 : p < r.length := by omega
  refine ⟨h1, ?_⟩
  have h2 : (r.takeWhile (· ≠ 0))[p]'h = r[p] := by
    have := List.takeWhile_prefix (p := fun x : UInt8 => decide (x ≠ 0)) (l := r)
    exact this.getElem h
  have h3 := List.all_takeWhile (p := fun x : UInt8 => decide (x ≠ 0)) (l := r)
  have h4 := List.all_eq_true.1 h3 _ (List.getElem_mem h)
  rw [← h2]
  simpa using h4
theorem nm_at : ∀ {r : List UInt8} (h : nmLen r < r.length), r[nmLen r] = 0 := by
  intro r
  induction r with
  | nil => intro h; simp at h
  | cons c r ih =>
    intro h
    by_cases hc : c = 0
    · subst hc
      have e : nmLen (0 :: r) = 0 := by simp [nmLen]
      simp [e]
    · have e : nmLen (c :: r) = nmLen r + 1 := by simp [nmLen, hc]
      have h2 : nmLen r < r.length := by rw [e, List.length_cons] at h; omega
      have := ih h2
      simpa [e] using this
/-- The cells of an entry of which q bytes of the name are laid. -/
def partE (nb : ByteArray) (b : Bool) (ids : List UInt8) (q : Nat) : List Value := [.string nb, .bool b] ++ Bs (ids.take q ++ List.replicate (32 - q) 0)
theorem partE_zero (nm : List UInt8) (b : Bool) (ids : List UInt8) : partE ⟨nm.toArray⟩ b ids 0 = encE ⟨nm, b, default⟩ := rfl
theorem partE_len (nb : ByteArray) (b : Bool) (ids : List UInt8) (q : Nat) (hi : ids.length = 32) (hq : q ≤ 32) : (partE nb b ids q).length = 34 := by
  simp [partE, hi]
  omega
theorem partE_next (nb : ByteArray) (b : Bool) (ids : List UInt8) (q : Nat) (hi : ids.length = 32) (hq : q < 32) : (partE nb b ids q).set (2 + q) (.int .u8 (ub (ids.getD q 0))) = partE nb b ids (q + 1) := by
  unfold partE
  have e1 : ∀ (v : Value) (L : List Value), ([Value.string nb, .bool b] ++ L).set (2 + q) v = [Value.string nb, .bool b] ++ L.set q v := fun v L => by
    rw [List.set_append_right _ _ (by simp)]
    congr 2
    simp
  rw [e1, Bs_set]
  congr 2
  have e2 : List.replicate (32 - q) (0 : UInt8) = 0 :: List.replicate (32 - (q + 1)) 0 := by rw [← List.replicate_succ]; congr 1; omega
  have hql : q < ids.length := by omega
  rw [List.set_append_right _ _ (by rw [List.length_take]; omega), List.length_take, show q - min q ids.length = 0 by omega, e2, List.set_cons_zero, List.take_succ_eq_append_getElem hql, List.getD_eq_getElem?_getD, List.getElem?_eq_getElem hql, Option.getD_some, List.append_assoc]
  rfl
theorem partE_full (nm : List UInt8) (b : Bool) (r : List UInt8) (h : nmLen r + 33 ≤ r.length) : partE ⟨nm.toArray⟩ b ((r.drop (nmLen r + 1)).take 32) 32 = encE ⟨nm, b, idAt r⟩ := by
  have hl : ((r.drop (nmLen r + 1)).take 32).length = 32 := by rw [List.length_take, List.length_drop]; omega
  have hid : idAt r = ⟨(r.drop (nmLen r + 1)).take 32, hl⟩ := Subtype.ext (by
    show (((r.drop (nmLen r + 1)).take 32) ++ List.replicate 32 0).take 32 = _
    rw [List.take_append_of_le_length (by omega), List.take_of_length_le (l := (r.drop (nmLen r + 1)).take 32) (by omega)])
  rw [hid]
  unfold partE encE encI
  rw [List.take_of_length_le (l := (r.drop (nmLen r + 1)).take 32) (by omega), Nat.sub_self, List.replicate_zero, List.append_nil]
theorem meas_step (k j : Nat) (h : j < k) : k - (intOf (.int .i64 ((j : Int) + 1))).toNat < k - (intOf (.int .i64 (j : Int))).toNat := by
  simp only [intOf]
  omega
theorem ba_at (x : ByteArray) (k : Nat) (h : k < x.size) : x[k]'h = x.data.toList.getD k 0 := by
  have h2 : k < x.data.toList.length := by rw [← ba_size]; exact h
  rw [ByteArray.getElem_eq_getElem_data, ← Array.getElem_toList, List.getD_eq_getElem?_getD, List.getElem?_eq_getElem h2, Option.getD_some]
theorem laidP (w : World) (cs : List Value) : Below w.heap.size w ((w.alloc (.cells zeroE.toArray 39)).setRow w.heap.size cs.toArray) ∧ Blk ((w.alloc (.cells zeroE.toArray 39)).setRow w.heap.size cs.toArray) w.heap.size 39 cs :=
  ⟨below_setRow' ((Below.refl _ _).alloc (Nat.le_refl _) _) (Nat.le_refl _) _, (Blk.new w 39 zeroE).row _⟩
set_option maxRecDepth 20000 in
set_option maxHeartbeats 6400000 in
theorem rgetTree_any (W : World) (s : ByteArray) (l : List UInt8) (hl : l = s.data.toList) (hs : s.size < 4294967281) : Calls Tryz.prog 30 #[.string s] W (RGetTPost W l) := by
  have hls : l.length = s.size := by rw [hl, ← ba_size]
  have I0 : GetIn W l s [] (.slice none 0 0) W := ⟨RowQ.nil _ _ _ _, Below.refl _ _, by simp [hls], fun e he => absurd he (by simp), (by rw [hl]; cases getL s.data.toList <;> rfl)⟩
  have K0 := Lib.hid I0
  have HS := Lib.hid (show l.length < 4294967281 by omega)
  clear hl hs hls I0
  go_enter Tryz.func30, Tryz.ntmps30
  go_upto_region 3 with fail
  go_loopw [4, 5] (fun v b wr => ∃ (x : ByteArray) (es : List Ent), b = .string x ∧ GetIn W l x es v wr) (fun _ b _ => match b with | .string x => x.size | _ => 0)
  case atStart => exact ⟨s, [], rfl, K0.out⟩
  case round =>
    obtain ⟨x, es, rfl, hI⟩ := hrel
    clear K0
    obtain ⟨v0, hv0⟩ : ∃ v, v = wr := ⟨_, rfl⟩
    subst hv0
    have HI := Lib.hid hI
    clear hI
    obtain ⟨A1, c1, rfl, hc1, hm1⟩ := HI.out.row.shape
    by_cases hx : x.data.toList = []
    · have hx0 : x = ⟨#[]⟩ := ba_ext (by rw [hx])
      subst hx0
      have hget : getL l = some es := by rw [HI.out.get]; show some (es ++ []) = _; rw [List.append_nil]
      have hT : getT l = if mayT es = true then some es else none := by unfold getT; rw [hget]; rfl
      have hle := HI.out.sum
      have cM := fun w (hw : Below v0.heap.size v0 w) => refMayTree_any w A1 es.length c1 es (entE.src_below (HI.out.row.src (entE.row_one _)) hw) (by have := HS.out; omega) (fun e he => by have := HI.out.fit e he; have := HS.out; simp only [maxLen]; omega)
      have HT := Lib.hid hT
      cases hm : mayT es
      all_goals
        rw [hm] at HT
        simp only [hm] at cM
        have CM := Lib.hid cM
        clear cM hm hget hT hx hle
        go_wp2_with (go_at_call 28; refine (CM.out _ (Below.refl _ _)).mono ?_; rintro e w1 ⟨rfl, h1⟩; have B1 := Lib.hid h1; clear h1)
        go_ret2
        unfold RGetTPost
        rw [HT.out]
        first
          | exact ⟨rfl, HI.out.low.trans (B1.out.mono HI.out.low.size)⟩
          | exact ⟨A1, c1, rfl, HI.out.row.below B1.out, HI.out.low.trans (B1.out.mono HI.out.low.size)⟩
    · have hne : x.toList.isEmpty = false := by rw [ByteArray.toList_eq]; simpa using hx
      have hxs : x.size < 4294967281 := by have := HI.out.sum; have := HS.out; omega
      obtain ⟨xl, hxl⟩ : ∃ xl, xl = x.data.toList := ⟨_, rfl⟩
      have hz : xl.length = x.size := by rw [hxl, ← ba_size]
      obtain ⟨p, hp⟩ : ∃ p, p = nmLen (xl.drop 2) := ⟨_, rfl⟩
      have hple := nmLen_le (xl.drop 2)
      rw [← hp, List.length_drop] at hple
      have HX := Lib.hid hx
      have HXL := Lib.hid hxl
      have HZ := Lib.hid hz
      have HP := Lib.hid hp
      have HPL := Lib.hid hple
      have HXS := Lib.hid hxs
      clear hx hxl hz hp hple hxs
      obtain ⟨k, hkp⟩ : ∃ k, k = p + 2 := ⟨_, rfl⟩
      have HKP := Lib.hid hkp
      clear hkp hne hc1 hm1
      have hne : x.toList.isEmpty = false := by rw [ByteArray.toList_eq, ← HXL.out]; have := HX.out; rw [← HXL.out] at this; simpa using this
      go_upto_block 2 with fail
      go_cut [6] (fun kv wx => kv = .int .i64 k ∧ wx = v0)
      case first =>
        as_aux_lemma =>
          go_wp2_with fail
          go_loopw [6] (fun i wx => ∃ j : Nat, 2 ≤ j ∧ j ≤ k ∧ i = .int .i64 j ∧ wx = v0) (fun i _ => k - (intOf i).toNat)
          case atStart => exact ⟨2, Nat.le_refl _, by have := HKP.out; omega, rfl, rfl⟩
          case round =>
            obtain ⟨j, hj2, hjk, rfl, hw⟩ := hrel
            have hw1 := hw.symm
            subst hw1
            clear hw
            by_cases hlt : j < k
            · have hb : ∃ h : j < x.size, x[j]'h ≠ 0 := by
                obtain ⟨h1, h2⟩ := nm_before (r := xl.drop 2) (p := j - 2) (by rw [← HP.out]; have := HKP.out; omega)
                rw [List.length_drop] at h1
                have h3 : j < x.size := by have := HZ.out; omega
                refine ⟨h3, ?_⟩
                rw [List.getElem_drop] at h2
                rw [ba_at x j h3, ← HXL.out, List.getD_eq_getElem?_getD, List.getElem?_eq_getElem (by have := HZ.out; omega), Option.getD_some]
                have e : 2 + (j - 2) = j := by omega
                simpa only [e] using h2
              obtain ⟨hjz, hj0⟩ := hb
              have k1 : (j : Int) < (x.size : Int) := by omega
              have jb : wrap64 ((j : Int) + 1) = (j : Int) + 1 := by have := HXS.out; unfold wrap64; omega
              have hv : (((x[j]'hjz).toNat : Int) != 0) = true := by
                rw [bne_iff_ne]
                intro e
                exact hj0 (UInt8.toNat_inj.1 (by have : (0 : UInt8).toNat = 0 := rfl; omega))
              have HLT := Lib.hid hlt
              have HJ2 := Lib.hid hj2
              clear hj2 hjk hlt hj0
              go_wp2
              go_roundw
              case measure => first | exact meas_step k j HLT.out | (rw [jb]; exact meas_step k j HLT.out)
              case rel => exact ⟨j + 1, by have := HJ2.out; omega, HLT.out, by go_num, by first | trivial | rfl⟩
            · have hjk' : j = k := by omega
              subst hjk'
              have hex : ((x.size : Int) ≤ (j : Int)) ∨ ∃ h : j < x.size, (((x[j]'h).toNat : Int) != 0) = false := by
                by_cases hkz : j < x.size
                · refine .inr ⟨hkz, ?_⟩
                  have hq := HKP.out
                  have h1 := nm_at (r := xl.drop 2) (by rw [← HP.out, List.length_drop]; have := HZ.out; omega)
                  rw [List.getElem_drop] at h1
                  have h2 : x[j]'hkz = 0 := by
                    rw [ba_at x j hkz, ← HXL.out, List.getD_eq_getElem?_getD, List.getElem?_eq_getElem (by have := HZ.out; omega), Option.getD_some, ← h1]
                    have e : 2 + nmLen (xl.drop 2) = j := by rw [← HP.out]; omega
                    simp only [e]
                  rw [h2]
                  rfl
                · exact .inl (by omega)
              clear hj2 hjk hlt
              rcases hex with hk1 | ⟨hkz, hv⟩
              · go_wp2
                go_meet
                exact ⟨rfl, by first | trivial | rfl⟩
              · have k1 : (j : Int) < (x.size : Int) := by omega
                go_wp2
                go_meet
                exact ⟨rfl, by first | trivial | rfl⟩
      case rest =>
        obtain ⟨rfl, hw⟩ := hcut
        have hw1 := hw.symm
        subst hw1
        clear hw
        have kz : k ≤ 4294967290 := by have := HPL.out; have := HZ.out; have := HKP.out; have := HXS.out; omega
        obtain ⟨m, hm⟩ : ∃ m, m = k + 33 := ⟨_, rfl⟩
        have kb : wrap64 ((k : Int) + 33) = (m : Int) := by unfold wrap64; omega
        obtain ⟨k', hk'⟩ : ∃ k', k' = k + 1 := ⟨_, rfl⟩
        have kc : wrap64 ((k : Int) + 1) = (k' : Int) := by unfold wrap64; omega
        have KZ := Lib.hid kz
        have HM := Lib.hid hm
        have HK := Lib.hid hk'
        clear hm hk'
        clear kz
        by_cases hbig : p + 35 ≤ x.size
        · have k33 : (m : Int) ≤ (x.size : Int) := by have := HKP.out; have := HM.out; omega
          have x1 : (1 : Int) < (x.size : Int) := by omega
          have x0 : (0 : Int) < (x.size : Int) := by omega
          have z0 : 0 < x.size := by omega
          have z1 : 1 < x.size := by omega
          obtain ⟨c0, hc0⟩ : ∃ c, x[0]'z0 = c := ⟨_, rfl⟩
          obtain ⟨c1', hc1'⟩ : ∃ c, x[1]'z1 = c := ⟨_, rfl⟩
          have g0 : xl.getD 0 0 = c0 := by rw [HXL.out, ← ba_at x 0 z0, hc0]
          have g1 : xl.getD 1 0 = c1' := by rw [HXL.out, ← ba_at x 1 z1, hc1']
          have hone := oneT_is xl
          rw [← HP.out, g0, g1] at hone
          have HB := Lib.hid hbig
          by_cases h32 : c1' = 32
          · have v1 : (((x[1]'z1).toNat : Int) != 32) = false := by rw [hc1', h32]; rfl
            by_cases hd : c0 = 100 ∨ c0 = 102
            · rw [if_pos ⟨by have := HZ.out; omega, h32, hd⟩] at hone
              obtain ⟨r, hr⟩ : ∃ r, r = xl.drop 2 := ⟨_, rfl⟩
              have hrz : r.length + 2 = x.size := by rw [hr, List.length_drop]; have := HZ.out; omega
              have hpr : p = nmLen r := by rw [hr]; exact HP.out
              obtain ⟨nm, hnm⟩ : ∃ nm, nm = r.take p := ⟨_, rfl⟩
              obtain ⟨ids, hids⟩ : ∃ ids, ids = (r.drop (p + 1)).take 32 := ⟨_, rfl⟩
              have hil : ids.length = 32 := by rw [hids, List.length_take, List.length_drop]; omega
              obtain ⟨nb, hnb⟩ : ∃ nb : ByteArray, x.extract 2 k = nb := ⟨_, rfl⟩
              have hnn : nb = ⟨nm.toArray⟩ := by
                rw [← hnb]
                refine ba_ext ?_
                rw [ba_extract, ← HXL.out, hnm, hr, HKP.out, List.drop_take]
                congr 1
              obtain ⟨b, hb⟩ : ∃ b, b = decide (c0 = 100) := ⟨_, rfl⟩
              have hp0 : partE nb b ids 0 = encE ⟨nm, b, default⟩ := by rw [hnn]; exact partE_zero nm b ids
              have hp32 : partE nb b ids 32 = encE ⟨nm, b, idAt r⟩ := by rw [hnn, hids, hpr]; exact partE_full nm b r (by omega)
              have bu : Tryz.prog.built 39 [(0, .string nb), (1, .bool b)] = some (partE nb b ids 0).toArray := by
                rw [built_nameE nb b, hp0, hnn]
              have hbyte : ∀ q, q < 32 → ∃ h : k' + q < x.size, x[k' + q]'h = ids.getD q 0 := fun q hq => by
                have h1 : k' + q < x.size := by have := HK.out; have := HKP.out; omega
                refine ⟨h1, ?_⟩
                have h2 : q < ids.length := by omega
                rw [ba_at x _ h1, ← HXL.out]
                simp only [hids, hr, List.getD_eq_getElem?_getD, List.getElem?_take, if_pos hq, List.getElem?_drop]
                have e : 2 + (p + 1 + q) = k' + q := by have := HK.out; have := HKP.out; omega
                rw [e]
              rw [← hr, ← hnm, ← hb] at hone
              have ho : oneT x.data.toList = some (⟨nm, b, idAt r⟩, r.drop (p + 33)) := by rw [← HXL.out, hone]
              have hlast : ∀ z : ByteArray, z = x.extract m x.size → z = ⟨(r.drop (p + 33)).toArray⟩ := fun z hz => ba_ext (by
                rw [hz, ba_from, ← HXL.out, hr, List.drop_drop]
                congr 1
                have := HM.out
                have := HKP.out
                omega)
              have hend : (x.extract m x.size).size < x.size := by rw [ByteArray.size_extract]; have := HM.out; omega
              have htb : ∀ q : Nat, q < 32 → wrap64 ((k' : Int) + (q : Int)) = ((k' + q : Nat) : Int) := fun q hq => by
                have := KZ.out
                have := HK.out
                unfold wrap64
                omega
              have HTB := Lib.hid htb
              have HES := Lib.hid (show es.length + 1 ≤ 4294967281 from by have := HI.out.sum; have := HS.out; omega)
              have HO := Lib.hid ho
              have HLA := Lib.hid hlast
              have HEN := Lib.hid hend
              have HBY := Lib.hid hbyte
              have BU := Lib.hid bu
              have P0 := Lib.hid hp0
              have P32 := Lib.hid hp32
              have HIL := Lib.hid hil
              have k2 : (2 : Int) ≤ (k : Int) := by have := HKP.out; omega
              have kx : (k : Int) ≤ (x.size : Int) := by have := HKP.out; omega
              have hv1 : (((x[0]'z0).toNat : Int) == 100) = b := by
                rw [hb, hc0, Bool.eq_iff_iff, beq_iff_eq, decide_eq_true_eq]
                constructor
                · intro h
                  exact UInt8.toNat_inj.1 (by have : (100 : UInt8).toNat = 100 := rfl; omega)
                · rintro rfl; rfl
              have hv2 : (((x[0]'z0).toNat : Int) != 100) = !b := by rw [← hv1]; rfl
              have hv3 : b = false → (((x[0]'z0).toNat : Int) != 102) = false := fun h => by
                rcases hd with rfl | rfl
                · rw [hb] at h; cases h
                · rw [hc0]; rfl
              have HV3 := Lib.hid hv3
              clear htb hrz hpr hnm hids hil hnn hp0 hp32 bu hbyte hone ho hlast hend hv3 hd h32 g0 g1 hc0 hc1' hbig hb hr
              as_aux_lemma =>
                cases b
                · have v3 := HV3.out rfl
                  clear HV3
                  go_upto_region 9 with fail
                  refine wp_region_any (by kernel_rfl) ?_
                  change wpAny _ _ _ _ _ _ _ (World.drew _)
                  have BD := Lib.hid (HI.out.low.drew)
                  have RD : Hid (RowQ v0.drew W.heap.size 39 34 (.slice A1 es.length c1) es.length (entE.row es)) := Lib.hid HI.out.row.drew
                  generalize World.drew v0 = v1 at BD RD ⊢
                  refine wpAny_bare [0, 1, 2, 3, 4, 5] 3 (by rfl) (by kernel_rfl) (fun _ _ _ d _ h => by cases d <;> exact h) ?_
                  simp only [bareO, List.filterMap_cons, List.filterMap_nil, List.getElem?_toArray, List.getElem?_cons_succ, List.getElem?_cons_zero]
                  repeat (first | quiet_step (fail) | go_big_quiet_step (fail))
                  refine wpQuiet_nil ?_
                  have PI := Lib.hid (show (Tryz.prog.info? 39).map (·.size) = some (partE nb false ids 0).length from by rw [P0.out]; exact infoE _)
                  have PO := Lib.hid (show ∀ v ∈ partE nb false ids 0, v.oneCell' = true from by rw [P0.out]; exact entE.one _)
                  have PL := Lib.hid (partE_len nb false ids 0 HIL.out (by omega))
                  refine wpAny_ready (rs := [6, 7]) (by kernel_rfl) (by simp) ?_
                  refine (AllReady.cons rfl (fun K hK => ?_) (AllReady.cons rfl (fun K hK => ?_) AllReady.nil))
                  refine step_build (by rfl) 39 [(0, .tmp 46), (1, .tmp 49)] rfl (partE nb false ids 0).toArray BU.out ?_
                  refine hK _ _ ?_
                  clear hK K
                  refine wpAny_ready (rs := [7]) (by kernel_rfl) (by simp) ?_
                  refine (AllReady.cons rfl (fun K hK => ?_) AllReady.nil)
                  go_simp
                  refine hK _ _ ?_
                  clear hK K
                  refine wpAny_ready (rs := [8]) (by kernel_rfl) (by simp) ?_
                  refine (AllReady.cons rfl (fun K hK => ?_) AllReady.nil)
                  refine step_storeS (by rfl) 39 (.tmp 7) (.tmp 50) rfl v1.heap.size (partE nb false ids 0) rfl rfl 39 zeroE (Blk.new v1 _ _) PI.out (by rw [PL.out]; rfl) PO.out ?_
                  refine hK _ _ ?_
                  clear hK K
                  refine wpAny_done (by kernel_rfl) ?_ _
                  rotate_left
                  go_simp
                  refine hK _ _ ?_
                  clear hK K
                  refine wpAny_ready (rs := [6]) (by kernel_rfl) (by simp) ?_
                  refine (AllReady.cons rfl (fun K hK => ?_) AllReady.nil)
                  refine step_build (by rfl) 39 [(0, .tmp 46), (1, .tmp 49)] rfl (partE nb false ids 0).toArray BU.out ?_
                  refine hK _ _ ?_
                  clear hK K
                  refine wpAny_ready (rs := [8]) (by kernel_rfl) (by simp) ?_
                  refine (AllReady.cons rfl (fun K hK => ?_) AllReady.nil)
                  refine step_storeS (by rfl) 39 (.tmp 7) (.tmp 50) rfl v1.heap.size (partE nb false ids 0) rfl rfl 39 zeroE (Blk.new v1 _ _) PI.out (by rw [PL.out]; rfl) PO.out ?_
                  refine hK _ _ ?_
                  clear hK K
                  refine wpAny_done (by kernel_rfl) ?_ _
                  all_goals
                    generalize hw : World.setRow _ _ _ = w2
                    have E2 : Hid (Below v1.heap.size v1 w2) := Lib.hid (by rw [← hw]; exact (laidP v1 _).1)
                    have K2 : Hid (Blk w2 v1.heap.size 39 (partE nb false ids 0)) := Lib.hid (by rw [← hw]; exact (laidP v1 _).2)
                    clear hw PI PO PL
                    obtain ⟨g, hg⟩ : ∃ g, g = v1.heap.size := ⟨_, rfl⟩
                    rw [← hg] at K2 ⊢
                    have HGG := Lib.hid hg
                    clear hg
                    go_upto_block 4 with fail
                    go_cut [8] (fun _ wx => Below v1.heap.size v1 wx ∧ Blk wx g 39 (partE nb false ids 32))
                    case first =>
                      go_wp2_with fail
                      go_loopw [8] (fun i wx => ∃ q : Nat, q ≤ 32 ∧ i = .int .i64 q ∧ Below v1.heap.size v1 wx ∧ Blk wx g 39 (partE nb false ids q)) (fun i _ => 32 - (intOf i).toNat)
                      case atStart => exact ⟨0, Nat.zero_le _, rfl, E2.out, K2.out⟩
                      case round =>
                        obtain ⟨q, hq, rfl, hb, hk⟩ := hrel
                        have HB := Lib.hid hb
                        have HQ := Lib.hid hk
                        by_cases hlt : q < 32
                        · obtain ⟨hxs, hxv⟩ := HBY.out q hlt
                          have tb := HTB.out q hlt
                          generalize k' + q = t at hxs hxv tb
                          have q1 : (q : Int) < 32 := by omega
                          have t1 : (t : Int) < (x.size : Int) := by omega
                          obtain ⟨u, hu⟩ : ∃ u, ub (ids.getD q 0) = u := ⟨_, rfl⟩
                          have hv : ((x[t]'hxs).toNat : Int) = u := by rw [hxv, ← hu]; rfl
                          obtain ⟨old, hcell⟩ : ∃ old, wr.cell? ⟨g, 2 + q, none⟩ = some old := ⟨_, hk.cell (2 + q) _ (List.getElem?_eq_getElem (by rw [partE_len nb false ids q HIL.out hq]; omega))⟩
                          have hfr := hk.frozen (2 + q)
                          have HLT := Lib.hid hlt
                          have HU := Lib.hid hu
                          clear hxv hu hb hk hq hlt
                          go_wp2
                          go_roundw
                          case measure => exact meas_step 32 q HLT.out
                          case rel =>
                            refine ⟨q + 1, HLT.out, by go_num, ?_, ?_⟩
                            · exact HB.out.trans (show Below v1.heap.size wr (wr.setCell ⟨g, 2 + q, none⟩ (.int .u8 u)) from ⟨rfl, rfl, rfl, by simp [World.setCell], fun i hi => heap_setCell_other wr ⟨g, 2 + q, none⟩ i _ (by show i ≠ g; rw [HGG.out]; exact Nat.ne_of_lt hi)⟩)
                            · rw [← partE_next nb false ids q HIL.out HLT.out, HU.out]
                              exact HQ.out.setCell (2 + q) _
                        · have h32 : q = 32 := by omega
                          subst h32
                          clear hb hk hq hlt
                          go_wp2
                          go_meet
                          exact ⟨HB.out, HQ.out⟩
                    case rest =>
                      obtain ⟨hb, hk⟩ := hcut
                      rw [P32.out] at hk
                      have RC := Lib.hid (RD.out.below hb)
                      have LC := Lib.hid (BD.out.trans (hb.mono BD.out.size))
                      have KC := Lib.hid hk
                      have IE := Lib.hid (infoE ⟨nm, false, idAt r⟩)
                      generalize (⟨nm, false, idAt r⟩ : Ent) = e at KC IE HO
                      clear hb hk E2 K2 RD BD HGG BU P0 P32 HIL HTB
                      go_wp2_with (first
                        | (refine wpl_loadS rfl 39 (.tmp 7) rfl ⟨g, 0, none⟩ rfl (encE e) Tryz.isAgg39 IE.out (fun j u hu => by rw [addr_row _ rfl, Nat.zero_add]; exact KC.out.cell j u hu) ?_)
                        | (refine wpl_buildE entE rfl 36 39 1 _ rfl [e] rfl rfl (.agg zeroE.toArray) 56 Tryz.underlying36 (by kernel_rfl) (by decide) (by decide) ?_; have R3 := Lib.hid (RC.out.alloc (.cells (entE.row [e]).toArray 39)); have L3 := Lib.hid (LC.out.alloc LC.out.size (.cells (entE.row [e]).toArray 39)); have S3 := Lib.hid (row_src entE wc 39 [e]); generalize wc.heap.size = g3 at S3 ⊢; generalize World.alloc wc (.cells (entE.row [e]).toArray 39) = w3 at R3 L3 S3 ⊢)
                        | (at_builtin; refine wpl_append rfl (.tmp 64) (.tmp 66) 36 rfl W.heap.size 39 (.agg zeroE.toArray) 34 56 Tryz.underlying36 (by kernel_rfl) rfl (by decide) (.slice A1 es.length c1) es.length (entE.row es) rfl R3.out (some ⟨g3, 0, none⟩) 1 1 (entE.row [e]) rfl S3.out (Nat.le_trans HES.out (by decide)) (Nat.le_trans (Nat.mul_le_mul_right 56 HES.out) (by decide)) L3.out.size ?_; intro v4 w4 hr4 hg4 ha4; have R4 := Lib.hid hr4; have L4 := Lib.hid (L3.out.grown hg4 L3.out.size (fun k e => (R3.out.lt k e).1)); clear hr4 hg4 ha4))
                      go_roundw
                      case measure => exact HEN.out
                      case rel =>
                        refine ⟨x.extract m x.size, es ++ [e], rfl, ?_⟩
                        rw [HLA.out _ rfl]
                        exact HI.out.next HX.out HO.out R4.out L4.out
                · clear HV3
                  go_upto_region 9 with fail
                  refine wp_region_any (by kernel_rfl) ?_
                  change wpAny _ _ _ _ _ _ _ (World.drew _)
                  have BD := Lib.hid (HI.out.low.drew)
                  have RD : Hid (RowQ v0.drew W.heap.size 39 34 (.slice A1 es.length c1) es.length (entE.row es)) := Lib.hid HI.out.row.drew
                  generalize World.drew v0 = v1 at BD RD ⊢
                  refine wpAny_bare [0, 1, 2, 3, 4, 5] 3 (by rfl) (by kernel_rfl) (fun _ _ _ d _ h => by cases d <;> exact h) ?_
                  simp only [bareO, List.filterMap_cons, List.filterMap_nil, List.getElem?_toArray, List.getElem?_cons_succ, List.getElem?_cons_zero]
                  repeat (first | quiet_step (fail) | go_big_quiet_step (fail))
                  refine wpQuiet_nil ?_
                  have PI := Lib.hid (show (Tryz.prog.info? 39).map (·.size) = some (partE nb true ids 0).length from by rw [P0.out]; exact infoE _)
                  have PO := Lib.hid (show ∀ v ∈ partE nb true ids 0, v.oneCell' = true from by rw [P0.out]; exact entE.one _)
                  have PL := Lib.hid (partE_len nb true ids 0 HIL.out (by omega))
                  refine wpAny_ready (rs := [6, 7]) (by kernel_rfl) (by simp) ?_
                  refine (AllReady.cons rfl (fun K hK => ?_) (AllReady.cons rfl (fun K hK => ?_) AllReady.nil))
                  refine step_build (by rfl) 39 [(0, .tmp 46), (1, .tmp 49)] rfl (partE nb true ids 0).toArray BU.out ?_
                  refine hK _ _ ?_
                  clear hK K
                  refine wpAny_ready (rs := [7]) (by kernel_rfl) (by simp) ?_
                  refine (AllReady.cons rfl (fun K hK => ?_) AllReady.nil)
                  go_simp
                  refine hK _ _ ?_
                  clear hK K
                  refine wpAny_ready (rs := [8]) (by kernel_rfl) (by simp) ?_
                  refine (AllReady.cons rfl (fun K hK => ?_) AllReady.nil)
                  refine step_storeS (by rfl) 39 (.tmp 7) (.tmp 50) rfl v1.heap.size (partE nb true ids 0) rfl rfl 39 zeroE (Blk.new v1 _ _) PI.out (by rw [PL.out]; rfl) PO.out ?_
                  refine hK _ _ ?_
                  clear hK K
                  refine wpAny_done (by kernel_rfl) ?_ _
                  rotate_left
                  go_simp
                  refine hK _ _ ?_
                  clear hK K
                  refine wpAny_ready (rs := [6]) (by kernel_rfl) (by simp) ?_
                  refine (AllReady.cons rfl (fun K hK => ?_) AllReady.nil)
                  refine step_build (by rfl) 39 [(0, .tmp 46), (1, .tmp 49)] rfl (partE nb true ids 0).toArray BU.out ?_
                  refine hK _ _ ?_
                  clear hK K
                  refine wpAny_ready (rs := [8]) (by kernel_rfl) (by simp) ?_
                  refine (AllReady.cons rfl (fun K hK => ?_) AllReady.nil)
                  refine step_storeS (by rfl) 39 (.tmp 7) (.tmp 50) rfl v1.heap.size (partE nb true ids 0) rfl rfl 39 zeroE (Blk.new v1 _ _) PI.out (by rw [PL.out]; rfl) PO.out ?_
                  refine hK _ _ ?_
                  clear hK K
                  refine wpAny_done (by kernel_rfl) ?_ _
                  all_goals
                    generalize hw : World.setRow _ _ _ = w2
                    have E2 : Hid (Below v1.heap.size v1 w2) := Lib.hid (by rw [← hw]; exact (laidP v1 _).1)
                    have K2 : Hid (Blk w2 v1.heap.size 39 (partE nb true ids 0)) := Lib.hid (by rw [← hw]; exact (laidP v1 _).2)
                    clear hw PI PO PL
                    obtain ⟨g, hg⟩ : ∃ g, g = v1.heap.size := ⟨_, rfl⟩
                    rw [← hg] at K2 ⊢
                    have HGG := Lib.hid hg
                    clear hg
                    go_upto_block 4 with fail
                    go_cut [8] (fun _ wx => Below v1.heap.size v1 wx ∧ Blk wx g 39 (partE nb true ids 32))
                    case first =>
                      go_wp2_with fail
                      go_loopw [8] (fun i wx => ∃ q : Nat, q ≤ 32 ∧ i = .int .i64 q ∧ Below v1.heap.size v1 wx ∧ Blk wx g 39 (partE nb true ids q)) (fun i _ => 32 - (intOf i).toNat)
                      case atStart => exact ⟨0, Nat.zero_le _, rfl, E2.out, K2.out⟩
                      case round =>
                        obtain ⟨q, hq, rfl, hb, hk⟩ := hrel
                        have HB := Lib.hid hb
                        have HQ := Lib.hid hk
                        by_cases hlt : q < 32
                        · obtain ⟨hxs, hxv⟩ := HBY.out q hlt
                          have tb := HTB.out q hlt
                          generalize k' + q = t at hxs hxv tb
                          have q1 : (q : Int) < 32 := by omega
                          have t1 : (t : Int) < (x.size : Int) := by omega
                          obtain ⟨u, hu⟩ : ∃ u, ub (ids.getD q 0) = u := ⟨_, rfl⟩
                          have hv : ((x[t]'hxs).toNat : Int) = u := by rw [hxv, ← hu]; rfl
                          obtain ⟨old, hcell⟩ : ∃ old, wr.cell? ⟨g, 2 + q, none⟩ = some old := ⟨_, hk.cell (2 + q) _ (List.getElem?_eq_getElem (by rw [partE_len nb true ids q HIL.out hq]; omega))⟩
                          have hfr := hk.frozen (2 + q)
                          have HLT := Lib.hid hlt
                          have HU := Lib.hid hu
                          clear hxv hu hb hk hq hlt
                          go_wp2
                          go_roundw
                          case measure => exact meas_step 32 q HLT.out
                          case rel =>
                            refine ⟨q + 1, HLT.out, by go_num, ?_, ?_⟩
                            · exact HB.out.trans (show Below v1.heap.size wr (wr.setCell ⟨g, 2 + q, none⟩ (.int .u8 u)) from ⟨rfl, rfl, rfl, by simp [World.setCell], fun i hi => heap_setCell_other wr ⟨g, 2 + q, none⟩ i _ (by show i ≠ g; rw [HGG.out]; exact Nat.ne_of_lt hi)⟩)
                            · rw [← partE_next nb true ids q HIL.out HLT.out, HU.out]
                              exact HQ.out.setCell (2 + q) _
                        · have h32 : q = 32 := by omega
                          subst h32
                          clear hb hk hq hlt
                          go_wp2
                          go_meet
                          exact ⟨HB.out, HQ.out⟩
                    case rest =>
                      obtain ⟨hb, hk⟩ := hcut
                      rw [P32.out] at hk
                      have RC := Lib.hid (RD.out.below hb)
                      have LC := Lib.hid (BD.out.trans (hb.mono BD.out.size))
                      have KC := Lib.hid hk
                      have IE := Lib.hid (infoE ⟨nm, true, idAt r⟩)
                      generalize (⟨nm, true, idAt r⟩ : Ent) = e at KC IE HO
                      clear hb hk E2 K2 RD BD HGG BU P0 P32 HIL HTB
                      go_wp2_with (first
                        | (refine wpl_loadS rfl 39 (.tmp 7) rfl ⟨g, 0, none⟩ rfl (encE e) Tryz.isAgg39 IE.out (fun j u hu => by rw [addr_row _ rfl, Nat.zero_add]; exact KC.out.cell j u hu) ?_)
                        | (refine wpl_buildE entE rfl 36 39 1 _ rfl [e] rfl rfl (.agg zeroE.toArray) 56 Tryz.underlying36 (by kernel_rfl) (by decide) (by decide) ?_; have R3 := Lib.hid (RC.out.alloc (.cells (entE.row [e]).toArray 39)); have L3 := Lib.hid (LC.out.alloc LC.out.size (.cells (entE.row [e]).toArray 39)); have S3 := Lib.hid (row_src entE wc 39 [e]); generalize wc.heap.size = g3 at S3 ⊢; generalize World.alloc wc (.cells (entE.row [e]).toArray 39) = w3 at R3 L3 S3 ⊢)
                        | (at_builtin; refine wpl_append rfl (.tmp 64) (.tmp 66) 36 rfl W.heap.size 39 (.agg zeroE.toArray) 34 56 Tryz.underlying36 (by kernel_rfl) rfl (by decide) (.slice A1 es.length c1) es.length (entE.row es) rfl R3.out (some ⟨g3, 0, none⟩) 1 1 (entE.row [e]) rfl S3.out (Nat.le_trans HES.out (by decide)) (Nat.le_trans (Nat.mul_le_mul_right 56 HES.out) (by decide)) L3.out.size ?_; intro v4 w4 hr4 hg4 ha4; have R4 := Lib.hid hr4; have L4 := Lib.hid (L3.out.grown hg4 L3.out.size (fun k e => (R3.out.lt k e).1)); clear hr4 hg4 ha4))
                      go_roundw
                      case measure => exact HEN.out
                      case rel =>
                        refine ⟨x.extract m x.size, es ++ [e], rfl, ?_⟩
                        rw [HLA.out _ rfl]
                        exact HI.out.next HX.out HO.out R4.out L4.out
            · have ho : oneT x.data.toList = none := by rw [← HXL.out, hone, if_neg (fun h => hd h.2.2)]
              have hT : getT l = none := by unfold getT; rw [HI.out.get, getL_next HX.out, ho]; rfl
              have HT := Lib.hid hT
              have v2 : (((x[0]'z0).toNat : Int) != 100) = true := by
                rw [hc0, bne_iff_ne]
                intro e
                exact hd (.inl (UInt8.toNat_inj.1 (by have : (100 : UInt8).toNat = 100 := rfl; omega)))
              have v3 : (((x[0]'z0).toNat : Int) != 102) = true := by
                rw [hc0, bne_iff_ne]
                intro e
                exact hd (.inr (UInt8.toNat_inj.1 (by have : (102 : UInt8).toNat = 102 := rfl; omega)))
              clear hone ho hT hd h32 g0 g1 hc0 hc1' hbig
              as_aux_lemma =>
                go_wp2
                refine bodyPost_ret (v := .tuple #[.slice none 0 0, .bool false]) (results_tmp2 (t := 2) (u := 3) rfl _ _ _) rfl ?_
                unfold RGetTPost
                rw [HT.out]
                exact ⟨rfl, HI.out.low⟩
          · have ho : oneT x.data.toList = none := by rw [← HXL.out, hone, if_neg (fun h => h32 h.2.1)]
            have hT : getT l = none := by unfold getT; rw [HI.out.get, getL_next HX.out, ho]; rfl
            have HT := Lib.hid hT
            have v1 : (((x[1]'z1).toNat : Int) != 32) = true := by
              rw [hc1', bne_iff_ne]
              intro e
              exact h32 (UInt8.toNat_inj.1 (by have : (32 : UInt8).toNat = 32 := rfl; omega))
            clear hone ho hT h32 g0 g1 hc0 hc1' hbig
            as_aux_lemma =>
              go_wp2
              refine bodyPost_ret (v := .tuple #[.slice none 0 0, .bool false]) (results_tmp2 (t := 2) (u := 3) rfl _ _ _) rfl ?_
              unfold RGetTPost
              rw [HT.out]
              exact ⟨rfl, HI.out.low⟩
        · have ho : oneT x.data.toList = none := by
            rw [← HXL.out, oneT_is, if_neg]
            rintro ⟨h, _⟩
            rw [← HP.out, HZ.out] at h
            exact hbig h
          have hT : getT l = none := by unfold getT; rw [HI.out.get, getL_next HX.out, ho]; rfl
          have HT := Lib.hid hT
          have k33 : (m : Int) > (x.size : Int) := by have := HKP.out; have := HM.out; omega
          clear ho hT hbig
          as_aux_lemma =>
            go_wp2
            refine bodyPost_ret (v := .tuple #[.slice none 0 0, .bool false]) (results_tmp2 (t := 2) (u := 3) rfl _ _ _) rfl ?_
            unfold RGetTPost
            rw [HT.out]
            exact ⟨rfl, HI.out.low⟩
end Go.Proofs.YtcomibocajjhoaaGreatDoor
namespace Go.Proofs.YtcomibocajjhoaaGreatDoor
open Go.RowKit
set_option maxRecDepth 20000 in
set_option maxHeartbeats 3200000 in
theorem entries_same (W : World) (A B : Option Addr) (n c d : Nat) (es : List Ent) (hs : Src W 34 A n (entE.row es)) (ht : Src W 34 B n (entE.row es)) (hn : n ≤ 1099511627776) (hc : n ≤ c) (hd : n ≤ d) :
    Calls Tryz.prog 31 #[.slice A n c, .slice B n d] W fun e W' => e = .returned (.bool true) ∧ Below W.heap.size W W' := by
  have HS := Lib.hid hs
  have HT := Lib.hid ht
  have n1 : (n : Int) ≤ 1099511627776 := by omega
  have c1 : (n : Int) ≤ (c : Int) := by omega
  have d1 : (n : Int) ≤ (d : Int) := by omega
  clear hs ht hn hc hd
  go_enter Tryz.func31, Tryz.ntmps31
  go_upto_region 4 with fail
  go_loopw [13] (fun i wx => ∃ j : Nat, j ≤ n ∧ i = .int .i64 j ∧ Below W.heap.size W wx) (fun i _ => n - (intOf i).toNat)
  case atStart => exact ⟨0, Nat.zero_le _, rfl, Below.refl _ _⟩
  case round =>
    obtain ⟨j, hj, rfl, hb⟩ := hrel
    have HB := Lib.hid hb
    by_cases hjn : j < n
    · have j1 : (j : Int) < (n : Int) := by omega
      have JN := Lib.hid hjn
      obtain ⟨hl, b1, o1, rfl, _⟩ := entE.src_at HS.out (by omega)
      obtain ⟨_, b2, o2, rfl, _⟩ := entE.src_at HT.out (by omega)
      obtain ⟨x, hx⟩ : ∃ x, x = es[j]! := ⟨_, rfl⟩
      have A1 : Hid (∀ w, Below W.heap.size W w → ∀ i v, (encE x)[i]? = some v → w.cell? ((⟨b1, o1 + j * 34, none⟩ : Addr).add i) = some v) := Lib.hid fun w hw i v hv => by
        obtain ⟨_, b, o, e, hat⟩ := entE.src_at (entE.src_below HS.out hw) (by omega)
        injection e with e
        injection e with e4 e5 _
        subst e4; subst e5
        have := hat j hjn i v (by rw [← hx]; exact hv)
        rw [addr_row _ rfl]
        exact this
      have A2 : Hid (∀ w, Below W.heap.size W w → ∀ i v, (encE x)[i]? = some v → w.cell? ((⟨b2, o2 + j * 34, none⟩ : Addr).add i) = some v) := Lib.hid fun w hw i v hv => by
        obtain ⟨_, b, o, e, hat⟩ := entE.src_at (entE.src_below HT.out hw) (by omega)
        injection e with e
        injection e with e4 e5 _
        subst e4; subst e5
        have := hat j hjn i v (by rw [← hx]; exact hv)
        rw [addr_row _ rfl]
        exact this
      have ne : ∀ w, (binOp .neq 39 (.agg (encE x).toArray) (.agg (encE x).toArray)).run Tryz.prog w = .ok (.bool false) w := fun w => by have := neqAtE.1 x x w; simpa using this
      have gu : ∀ op p q w, (eqGuard op 39 p q (.agg (encE x).toArray) (.agg (encE x).toArray)).run Tryz.prog w = .ok () w := fun op p q w => neqAtE.2 op p q x x w
      have IE := Lib.hid (infoE x)
      clear hb hj hjn hl hx
      go_upto_region 6 with fail
      have hemp := ext_nonempty wr
      have LD1 : Hid (∀ w', (∃ s : Ext wr, w' = s.at_) → ∀ i u, (encE x)[i]? = some u → w'.cell? ((⟨b1, o1 + j * 34, none⟩ : Addr).add i) = some u) := Lib.hid fun w' ⟨s, hw⟩ i u hu => by
        rw [hw]
        exact A1.out _ (HB.out.trans (s.below.mono HB.out.size)) i u hu
      have LD2 : Hid (∀ w', (∃ s : Ext wr, w' = s.at_) → ∀ i u, (encE x)[i]? = some u → w'.cell? ((⟨b2, o2 + j * 34, none⟩ : Addr).add i) = some u) := Lib.hid fun w' ⟨s, hw⟩ i u hu => by
        rw [hw]
        exact A2.out _ (HB.out.trans (s.below.mono HB.out.size)) i u hu
      refine wp_region_ext (by kernel_rfl) (by kernel_rfl) ?_
      repeat (first
        | (refine wpQuiet_loadS (by rfl) 39 (.tmp 18) rfl ⟨b1, o1 + j * 34, none⟩ rfl (encE x) Tryz.isAgg39 IE.out LD1.out ?_)
        | (refine wpQuiet_loadS (by rfl) 39 (.tmp 22) rfl ⟨b2, o2 + j * 34, none⟩ rfl (encE x) Tryz.isAgg39 IE.out LD2.out ?_)
        | quiet_step (fail)
        | go_big_quiet_step (fail))
      refine wpQuiet_nil ?_
      rintro _ ⟨s9, rfl⟩
      have S9 := Lib.hid s9.below
      generalize s9.at_ = w9 at S9 ⊢
      go_wp2
      go_roundw
      case measure => simp [intOf]; have := JN.out; omega
      case rel => exact ⟨j + 1, JN.out, by go_num, HB.out.trans (S9.out.mono HB.out.size)⟩
    · have hjk : j = n := by omega
      have j1 : ¬ ((j : Int) < (n : Int)) := by omega
      clear hj hjn hb
      go_wp2
      go_ret
      exact ⟨rfl, HB.out⟩
end Go.Proofs.YtcomibocajjhoaaGreatDoor
namespace Go.Proofs.YtcomibocajjhoaaGreatDoor
open Go.RowKit
theorem Calls.grow {f : FuncId} {args : Array Value} {w : World} {v : Value} (h : Calls Tryz.prog f args w fun e w' => e = .returned v ∧ w' = w) : Calls Tryz.prog f args w fun e w' => e = .returned v ∧ Below w.heap.size w w' :=
  h.mono fun _ w' ⟨he, hw⟩ => ⟨he, by rw [hw]; exact Below.refl _ _⟩
theorem getT_may {s : List UInt8} {es : List Ent} (h : getT s = some es) : mayT es = true := by
  unfold getT at h
  cases hl : getL s with
  | none => rw [hl] at h; cases h
  | some l =>
    rw [hl] at h
    by_cases hm : mayT l = true
    · have h2 : (if mayT l = true then some l else none) = some es := h
      rw [if_pos hm] at h2
      rw [← Option.some.inj h2]
      exact hm
    · have h2 : (if mayT l = true then some l else none) = some es := h
      rw [if_neg hm] at h2
      cases h2
theorem pathV_len (l : List UInt8) : (pathV l).1.length ≤ l.length + 1 := by
  unfold pathV
  split
  · simp
  · split
    · exact partsP_len l
    · simp
theorem eqlE_self (e : Ent) (w : World) : (binOp .eql 39 (.agg (encE e).toArray) (.agg (encE e).toArray)).run Tryz.prog w = .ok (.bool true) w := by
  have := eqlAtE.1 e e w
  simpa using this
theorem src_none (w : World) : Src w 34 none 0 (entE.row ([] : List Ent)) := ⟨rfl, fun h => absurd h (Nat.lt_irrefl 0), fun u hu => by cases hu⟩
theorem rowCap {w : World} {B : Nat} {e : TypeId} {k : Nat} {A : Option Addr} {n c : Nat} {xs : List Value} (h : RowQ w B e k (.slice A n c) n xs) : n ≤ c := by
  obtain ⟨_, _, e, h1, _⟩ := h.shape
  injection e with _ _ e
  rw [e]
  exact h1
theorem built_zeroE : Tryz.prog.built 39 [] = some zeroE.toArray := by rw [builtE]; rfl
set_option maxRecDepth 20000 in
set_option maxHeartbeats 12800000 in
theorem treeAllLaw_any (W : World) (A : Option Addr) (n c : Nat) (es : List Ent) (s name : ByteArray) (hs : Src W 34 A n (entE.row es)) (hc : n ≤ c) (hf : ∀ e ∈ es, e.nm.length ≤ maxLen) (hG : Gl W) (hE : Ge W) :
    Calls Tryz.prog 10 #[.slice A n c, .string s, .string name] W fun e W' => e = .returned (.bool true) ∧ Below W.heap.size W W' := by
  obtain ⟨q, hq⟩ : ∃ q : Nat, q = min n 22 := ⟨_, rfl⟩
  have hmin : min (n : Int) 22 = (q : Int) := by omega
  have hqc : (q : Int) ≤ (c : Int) := by omega
  have hq22 : q ≤ 22 := by omega
  obtain ⟨us, hus⟩ : ∃ us, us = es.take q := ⟨_, rfl⟩
  have hul : us.length = q := by have := entE.src_len hs; rw [hus, List.length_take]; omega
  have hsq : ∀ w, Below W.heap.size W w → Src w 34 A q (entE.row us) := fun w hw => by rw [hus]; exact entE.src_take (entE.src_below hs hw) q (by omega)
  have huf : NamesFit us := fun e he => hf e (by rw [hus] at he; exact List.mem_of_mem_take he)
  obtain ⟨sb, hsb⟩ : ∃ sb : ByteArray, sb = ⟨(s.data.toList.take 120).toArray⟩ := ⟨_, rfl⟩
  obtain ⟨nb, hnb⟩ : ∃ nb : ByteArray, nb = ⟨(name.data.toList.take 50).toArray⟩ := ⟨_, rfl⟩
  have cT1 : ∀ w, Calls Tryz.prog 20 #[.string s, .int .i64 120] w fun e w' => e = .returned (.string sb) ∧ Below w.heap.size w w' := fun w => by rw [hsb]; exact Calls.grow (text_cut w s 120)
  have cT2 : ∀ w, Calls Tryz.prog 20 #[.string name, .int .i64 50] w fun e w' => e = .returned (.string nb) ∧ Below w.heap.size w w' := fun w => by rw [hnb]; exact Calls.grow (text_cut w name 50)
  obtain ⟨nl, hnl⟩ : ∃ nl, nl = nb.data.toList := ⟨_, rfl⟩
  have hnz : nb.size ≤ 50 := by rw [ba_size, hnb]; exact List.length_take_le _ _
  have hsz : sb.size ≤ 120 := by rw [ba_size, hsb]; exact List.length_take_le _ _
  obtain ⟨m, hm⟩ : ∃ m, m = mayT us := ⟨_, rfl⟩
  obtain ⟨ab, hab⟩ : ∃ ab : ByteArray, ab = ⟨(bif m then treeB us else []).toArray⟩ := ⟨_, rfl⟩
  have haz : ab.size ≤ 1100 := by
    rw [ba_size, hab]
    show (bif m then treeB us else []).length ≤ 1100
    cases m with
    | false => simp
    | true =>
      have h1 := treeB_len us fun e he => nameB_len (mayT_mem hm.symm e he)
      have h2 := mayT_len hm.symm
      simp only [cond_true]
      omega
  have cPut := fun w (hw : Below W.heap.size W w) => treePut_any w A q c us (hsq w hw) (by omega) huf
  unfold putV at cPut
  rw [← hm, ← hab] at cPut
  have cRM := fun w (hw : Below W.heap.size W w) => refMayTree_any w A q c us (hsq w hw) (by omega) huf
  have cM := fun w (hw : Below W.heap.size W w) => treeMay_any w A q c us (hsq w hw) (by omega) huf
  rw [← hm] at cRM cM
  have cN := fun w => treeName_any w nb nl hnl (by omega)
  have cRN := fun w => refName_any w nb nl hnl (by omega)
  obtain ⟨bn, hbn⟩ : ∃ bn, bn = nameB nl := ⟨_, rfl⟩
  rw [← hbn] at cN cRN
  have cRT : m = true → ∀ w, Below W.heap.size W w → Calls Tryz.prog 29 #[.slice A q c] w fun r w' => r = .returned (.string ab) ∧ w' = w := fun h w hw => by
    have := refTree_any w A q c us (hsq w hw) (by rw [← hm]; exact h)
    rw [hab, h]
    exact this
  have hae : m = false → ab = ⟨#[]⟩ := fun h => by rw [hab, h]; rfl
  have hpn : (pathV nl).1.length ≤ 51 := by have h1 := pathV_len nl; have h2 : nl.length = nb.size := by rw [hnl, ← ba_size]
                                            omega
  have cP := fun w hw => treePath_any w nb nl hnl (by omega) hw
  have cRP := fun w => rpath_any w nb nl hnl (by omega)
  unfold PathPost at cP cRP
  have cF := fun w (hw : Below W.heap.size W w) => treeFind_any w A q c us (hsq w hw) (by omega) nb nl hnl
  generalize (pathV nl).2 = pb at cP cRP
  generalize (pathV nl).1 = pl at cP cRP hpn
  obtain ⟨pn, hpl⟩ : ∃ pn, pn = pl.length := ⟨_, rfl⟩
  rw [← hpl] at cP cRP hpn
  obtain ⟨fx, fb, hfe⟩ : ∃ fx fb, findE us nl = (fx, fb) := ⟨_, _, rfl⟩
  rw [hfe] at cF
  have FE := Lib.hid hfe
  have PN := Lib.hid hpn
  have PL := Lib.hid hpl
  have cB := begun6_any W hG hE
  have CB := Lib.hid cB
  have T1 := Lib.hid cT1
  have T2 := Lib.hid cT2
  have CPut := Lib.hid cPut
  have CRM := Lib.hid cRM
  have CM := Lib.hid cM
  have CN := Lib.hid cN
  have CRN := Lib.hid cRN
  have CRT := Lib.hid cRT
  have HAE := Lib.hid hae
  have CP := Lib.hid cP
  have CRP := Lib.hid cRP
  have CF := Lib.hid cF
  have SQ := Lib.hid hsq
  have UL := Lib.hid hul
  have HG := Lib.hid hG
  have Q22 := Lib.hid hq22
  have NL := Lib.hid hnl
  have NZ := Lib.hid hnz
  have SZ := Lib.hid hsz
  have AZ := Lib.hid haz
  clear cB cT1 cT2 cPut cRM cM cN cRN cRT hae cP cRP cF hsq hul hG hE hq22 hnl hnz hsz haz hm hab hsb hnb huf hus hs hc hf hq hbn hfe hpn hpl
  go_enter Tryz.func10, Tryz.ntmps10
  go_upto_region 4 with (go_at_call 11; refine CB.out.mono ?_; rintro e w1 ⟨rfl, hb⟩; have B1 := Lib.hid hb; clear hb)
  clear CB
  have hemp := ext_nonempty w1
  refine wp_region_ext (by kernel_rfl) (by kernel_rfl) ?_
  repeat (first
    | quiet_step ((go_at_call 20; first | (with_reducible exact Ext.call (T1.out _)) | (with_reducible exact Ext.call (T2.out _))))
    | go_big_quiet_step ((go_at_call 20; first | (with_reducible exact Ext.call (T1.out _)) | (with_reducible exact Ext.call (T2.out _)))))
  refine wpQuiet_nil ?_
  rintro _ ⟨s9, rfl⟩
  have B2 := Lib.hid (B1.out.trans (s9.below.mono B1.out.size))
  generalize s9.at_ = w2 at B2 ⊢
  clear hemp B1
  go_upto_region 7 with (first
    | (go_at_call 16; refine (CPut.out _ B2.out).mono ?_; rintro e w3 ⟨rfl, hb⟩; have B3 := Lib.hid (B2.out.trans (hb.mono B2.out.size)); clear hb)
    | (go_at_call 28; refine (CRM.out _ B3.out).mono ?_; rintro e w4 ⟨rfl, hb⟩; have B4 := Lib.hid (B3.out.trans (hb.mono B3.out.size)); clear hb))
  clear B2 B3 CPut CRM
  go_cut [76] (fun v wx => v = .bool false ∧ Below W.heap.size W wx)
  case first =>
    have hbb : (bn != bn) = false := bne_self_eq_false bn
    cases m
    · have ae := HAE.out rfl
      subst ae
      clear HAE CRT
      go_wp2_with (first
        | (go_at_call 24; refine (CM.out _ B4.out).mono ?_; rintro e w5 ⟨rfl, hb⟩; have B5 := Lib.hid (B4.out.trans (hb.mono B4.out.size)); clear hb)
        | (go_at_call 12; refine (CN.out _).mono ?_; rintro e w6 ⟨rfl, hb⟩; have B6 := Lib.hid (B5.out.trans (hb.mono B5.out.size)); clear hb)
        | (go_at_call 21; refine (CRN.out _).mono ?_; rintro e w7 ⟨rfl, hw⟩; replace hw := hw.symm; subst hw))
      go_meet
      exact ⟨by first | rfl | simp, B6.out⟩
    · have RT := Lib.hid (CRT.out rfl)
      clear HAE CRT
      go_wp2_with (first
        | (go_at_call 24; refine (CM.out _ B4.out).mono ?_; rintro e w5 ⟨rfl, hb⟩; have B5 := Lib.hid (B4.out.trans (hb.mono B4.out.size)); clear hb)
        | (go_at_call 12; refine (CN.out _).mono ?_; rintro e w6 ⟨rfl, hb⟩; have B6 := Lib.hid (B5.out.trans (hb.mono B5.out.size)); clear hb)
        | (go_at_call 21; refine (CRN.out _).mono ?_; rintro e w7 ⟨rfl, hw⟩; replace hw := hw.symm; subst hw)
        | (go_at_call 29; refine (RT.out _ B6.out).mono ?_; rintro e w8 ⟨rfl, hw⟩; replace hw := hw.symm; subst hw))
      go_meet
      exact ⟨by first | rfl | simp, B6.out⟩
  case rest =>
    obtain ⟨rfl, hb⟩ := hcut
    have BC := Lib.hid hb
    clear hb B4 CM CN CRN CRT HAE hmin hqc
    have HGC := Lib.hid (HG.out.below BC.out)
    obtain ⟨h, hh⟩ : ∃ h, h = ab.size / 2 := ⟨_, rfl⟩
    have hd1 : ((ab.size : Int) / 2) = (h : Int) := by omega
    have hd2 : (h : Int) ≤ (ab.size : Int) := by omega
    have hd3 : wrap64 (h : Int) = (h : Int) := by have := AZ.out; unfold wrap64; omega
    obtain ⟨hb, hhb⟩ : ∃ hb : ByteArray, ab.extract 0 h = hb := ⟨_, rfl⟩
    have hhz : hb.size ≤ 1100 := by rw [← hhb, ByteArray.size_extract]; have := AZ.out; omega
    obtain ⟨w3, hw3⟩ : ∃ w3, w3 = wc.alloc (.cells #[.string ab, .string sb, .string hb] 9) := ⟨_, rfl⟩
    have hl3 : Below wc.heap.size wc w3 := by rw [hw3]; exact (Below.refl _ _).alloc (Nat.le_refl _) _
    obtain ⟨g, hg⟩ : ∃ g, g = wc.heap.size := ⟨_, rfl⟩
    have hk3 : Blk w3 g 9 [.string ab, .string sb, .string hb] := by rw [hw3, hg]; exact Blk.new wc _ _
    have hx : ∀ w, Below w3.heap.size w3 w → ∀ j : Nat, j < 3 → ∃ x : ByteArray, w.cell? ⟨g, j, none⟩ = some (.string x) ∧ x.size ≤ 1100 := fun w hw j hj => by
      have hk := hk3.below hw
      have z1 := SZ.out
      have z2 := AZ.out
      rcases j with _ | _ | _ | j
      · exact ⟨ab, hk.cell 0 _ rfl, z2⟩
      · exact ⟨sb, hk.cell 1 _ rfl, by omega⟩
      · exact ⟨hb, hk.cell 2 _ rfl, hhz⟩
      · omega
    have HX := Lib.hid hx
    have L3 := Lib.hid (BC.out.trans (hl3.mono BC.out.size))
    clear hh hhz hl3 hk3 hx
    go_upto_region 10 with fail
    change Code.wp _ _ _ _ (wc.alloc (.cells #[.string ab, .string sb, .string hb] 9))
    rw [← hw3, ← hg]
    clear hw3 hg hd1 hd2 hd3 hhb AZ SZ
    as_aux_lemma =>
      go_loopw [86] (fun i wx => ∃ j : Nat, j ≤ 3 ∧ i = .int .i64 j ∧ Below w3.heap.size w3 wx) (fun i _ => 3 - (intOf i).toNat)
      case atStart => exact ⟨0, Nat.zero_le _, rfl, Below.refl _ _⟩
      case round =>
        obtain ⟨j, hj, rfl, hbj⟩ := hrel
        have BJ := Lib.hid hbj
        have LJ := Lib.hid (L3.out.trans (hbj.mono L3.out.size))
        have HGJ := Lib.hid (HG.out.below LJ.out)
        by_cases hlt : j < 3
        · have j1 : (j : Int) < 3 := by omega
          obtain ⟨x, hcell, hxz⟩ := HX.out _ BJ.out j hlt
          have HLT := Lib.hid hlt
          have cG := fun w hw => treeGet_any w x x.data.toList rfl (by omega) hw
          have cR := fun w => rgetTree_any w x x.data.toList rfl (by omega)
          unfold GetTPost at cG
          unfold RGetTPost at cR
          cases hgt : getT x.data.toList with
          | none =>
            rw [hgt] at cG cR
            simp only at cG cR
            have CG := Lib.hid cG
            have CR := Lib.hid cR
            clear cG cR hgt hxz hlt hj hbj
            as_aux_lemma =>
              go_wp2_with (first
                | (go_at_call 17; refine (CG.out _ HGJ.out).mono ?_; rintro e w4 ⟨rfl, hb⟩; have B4 := Lib.hid (BJ.out.trans (hb.mono BJ.out.size)); clear hb)
                | (go_at_call 30; refine (CR.out _).mono ?_; rintro e w5 ⟨rfl, hb⟩; have B5 := Lib.hid (B4.out.trans (hb.mono B4.out.size)); clear hb)
                | (go_at_call 31; refine (entries_same _ none none 0 0 0 [] (src_none _) (src_none _) (by decide) (by decide) (by decide)).mono ?_; rintro e w6 ⟨rfl, hb⟩; have B6 := Lib.hid (B5.out.trans (hb.mono B5.out.size)); clear hb))
              go_roundw
              case measure => exact meas_step 3 j HLT.out
              case rel => exact ⟨j + 1, HLT.out, by go_num, B6.out⟩
          | some ys =>
            rw [hgt] at cG cR
            simp only at cG cR
            have hyl := mayT_len (getT_may hgt)
            have CG := Lib.hid cG
            have CR := Lib.hid cR
            have YL := Lib.hid hyl
            obtain ⟨yn, hyn⟩ : ∃ yn, yn = ys.length := ⟨_, rfl⟩
            have YN := Lib.hid hyn
            rw [← hyn] at CG CR YL
            clear cG cR hgt hxz hlt hj hbj hyl hyn
            as_aux_lemma =>
              go_wp2_with (first
                | (go_at_call 17; refine (CG.out _ HGJ.out).mono ?_; rintro e w4 ⟨A4, c4, rfl, hr, hb⟩; have R4 := Lib.hid hr; have B4 := Lib.hid (BJ.out.trans (hb.mono BJ.out.size)); clear hr hb)
                | (go_at_call 30; refine (CR.out _).mono ?_; rintro e w5 ⟨A5, c5, rfl, hr, hb⟩; have R5 := Lib.hid hr; have S4 := Lib.hid (R4.out.below hb); have B5 := Lib.hid (B4.out.trans (hb.mono B4.out.size)); clear hr hb)
                | (go_at_call 31; refine (entries_same _ A4 A5 yn c4 c5 ys (S4.out.src (entE.row_one _)) (R5.out.src (entE.row_one _)) (Nat.le_trans YL.out (by decide)) (rowCap S4.out) (rowCap R5.out)).mono ?_; rintro e w6 ⟨rfl, hb⟩; have B6 := Lib.hid (B5.out.trans (hb.mono B5.out.size)); clear hb))
              go_roundw
              case measure => exact meas_step 3 j HLT.out
              case rel => exact ⟨j + 1, HLT.out, by go_num, B6.out⟩
        · have j1 : (3 : Int) ≤ (j : Int) := by omega
          clear hlt hj hbj BJ HX
          have hpb : (pb != pb) = false := bne_self_eq_false pb
          as_aux_lemma =>
            go_upto_region 22 with (first
              | (go_at_call 22; refine (CP.out _ HGJ.out).mono ?_; rintro e w4 ⟨A4, c4, rfl, hr, hb⟩; have R4 := Lib.hid hr; have B4 := Lib.hid (LJ.out.trans (hb.mono LJ.out.size)); clear hr hb)
              | (go_at_call 23; refine (CRP.out _).mono ?_; rintro e w5 ⟨A5, c5, rfl, hr, hb⟩; have R5 := Lib.hid hr; have S4 := Lib.hid (src_below R4.out hb); have B5 := Lib.hid (B4.out.trans (hb.mono B4.out.size)); clear hr hb))
            clear CP CRP R4 B4 LJ HGJ
            have pn1 : (pn : Int) ≤ 51 := by have := PN.out; omega
            go_loopw [141] (fun i wx => ∃ j : Nat, j ≤ pn ∧ i = .int .i64 j ∧ Below w5.heap.size w5 wx) (fun i _ => pn - (intOf i).toNat)
            case atStart => exact ⟨0, Nat.zero_le _, rfl, Below.refl _ _⟩
            case round =>
              obtain ⟨k, hk, rfl, hbk⟩ := hrel
              have BK := Lib.hid hbk
              by_cases hlt : k < pn
              · have k1 : (k : Int) < (pn : Int) := by omega
                obtain ⟨a4, rfl, hc4⟩ := (src_below S4.out BK.out).2.1 (by omega)
                obtain ⟨a5, rfl, hc5⟩ := (src_below R5.out BK.out).2.1 (by omega)
                obtain ⟨u, hu⟩ : ∃ u : ByteArray, u = ⟨(pl.getD k []).toArray⟩ := ⟨_, rfl⟩
                have hsk : (Ss pl)[k]? = some (.string u) := by
                  have h1 : k < pl.length := by rw [← PL.out]; exact hlt
                  rw [hu]
                  simp [Ss, List.getD_eq_getElem?_getD, h1]
                have x4 := hc4 k _ hsk
                have x5 := hc5 k _ hsk
                have HLT := Lib.hid hlt
                clear hc4 hc5 hsk hu hlt hk hbk
                as_aux_lemma =>
                  go_wp2
                  go_quiet (fail)
                  go_wp2
                  go_roundw
                  case measure => exact meas_step pn k HLT.out
                  case rel => exact ⟨k + 1, HLT.out, by go_num, below_drewN' BK.out _⟩
              · have k1 : ¬ ((k : Int) < (pn : Int)) := by omega
                have LK := Lib.hid (B5.out.trans (BK.out.mono B5.out.size))
                clear hlt hk hbk BK S4 R5 B5 PL pn1
                have IX := Lib.hid (infoE fx)
                as_aux_lemma =>
                  go_upto_region 29 with (first
                    | (go_at_call 18; refine (CF.out _ LK.out).mono ?_; rintro e w6 ⟨rfl, hb⟩; have B6 := Lib.hid (LK.out.trans (hb.mono LK.out.size)); clear hb)
                    | (refine wpl_storeS rfl 39 (.tmp 22) _ rfl w6.heap.size (encE fx) rfl rfl 39 zeroE (Blk.new w6 _ _) IX.out (by rw [show (encE fx).length = 34 from entE.len _]; rfl) (entE.one _) ?_))
                  generalize hw : World.setRow _ _ _ = w7
                  have L7 : Hid (Below W.heap.size W w7) := Lib.hid (B6.out.trans (Below.mono (by rw [← hw]; exact (ent_laid w6 fx).1) B6.out.size))
                  have K7 : Hid (Blk w7 w6.heap.size 39 (encE fx)) := Lib.hid (by rw [← hw]; exact (ent_laid w6 fx).2)
                  clear hw B6 LK CF
                  generalize w6.heap.size = g7 at K7 ⊢
                  have q1 : (q : Int) ≤ 22 := by have := Q22.out; omega
                  have hnbn : nb = ⟨nl.toArray⟩ := by rw [NL.out]
                  have NBN := Lib.hid hnbn
                  clear hnbn
                  go_loopw [162] (fun i wx => ∃ j : Nat, j ≤ q ∧ i = .int .i64 j ∧ (∀ i, i < j → us[i]!.nm ≠ nl) ∧ Below w7.heap.size w7 wx) (fun i _ => q - (intOf i).toNat)
                  case atStart => exact ⟨0, Nat.zero_le _, rfl, fun i h => absurd h (Nat.not_lt_zero i), Below.refl _ _⟩
                  case round =>
                    obtain ⟨t, ht, rfl, hall, hbt⟩ := hrel
                    have BT := Lib.hid hbt
                    have LT := Lib.hid (L7.out.trans (hbt.mono L7.out.size))
                    have KT := Lib.hid (K7.out.below hbt)
                    have HALL := Lib.hid hall
                    by_cases hlt : t < q
                    · have t1 : (t : Int) < (q : Int) := by omega
                      have HLT := Lib.hid hlt
                      obtain ⟨_, b1, o1, rfl, hat⟩ := entE.src_at (SQ.out wr LT.out) (by omega)
                      obtain ⟨et, het⟩ : ∃ et, et = us[t]! := ⟨_, rfl⟩
                      obtain ⟨u, hu⟩ : ∃ u : ByteArray, u = ⟨et.nm.toArray⟩ := ⟨_, rfl⟩
                      have hcell : wr.cell? ⟨b1, o1 + t * 34, none⟩ = some (.string u) := by
                        have := hat t hlt 0 (.string u) (by rw [← het, hu]; rfl)
                        exact this
                      by_cases heq : et.nm = nl
                      · have hs1 : (u.toList == nb.toList) = true := by rw [hu, NBN.out, ba_eq, decide_eq_true heq]
                        have hfe := findE_hit nl us t (by rw [UL.out]; exact hlt) (by rw [← het]; exact heq) hall
                        rw [FE.out, ← het] at hfe
                        obtain ⟨h1, h2⟩ := Prod.mk.inj hfe
                        subst h1
                        subst h2
                        have AT : Hid (∀ w, Below wr.heap.size wr w → ∀ i v, (encE fx)[i]? = some v → w.cell? ((⟨b1, o1 + t * 34, none⟩ : Addr).add i) = some v) := Lib.hid fun w hw i v hv => by
                          obtain ⟨_, b2, o2, e, hat2⟩ := entE.src_at (SQ.out w (LT.out.trans (hw.mono LT.out.size))) (by omega)
                          injection e with e
                          injection e with e4 e5 _
                          subst e4; subst e5
                          have := hat2 t hlt i v (by rw [← het]; exact hv)
                          rw [addr_row _ rfl]
                          exact this
                        have eq1 : ∀ w, (binOp .eql 39 (.agg (encE fx).toArray) (.agg (encE fx).toArray)).run Tryz.prog w = .ok (.bool true) w := fun w => by have := eqlAtE.1 fx fx w; simpa using this
                        have gu1 : ∀ op p q w, (eqGuard op 39 p q (.agg (encE fx).toArray) (.agg (encE fx).toArray)).run Tryz.prog w = .ok () w := fun op p q w => eqlAtE.2 op p q fx fx w
                        have hemp := ext_nonempty wr
                        have LD1 : Hid (∀ w', (∃ s : Ext wr, w' = s.at_) → ∀ i v, (encE fx)[i]? = some v → w'.cell? ((⟨g7, 0, none⟩ : Addr).add i) = some v) := Lib.hid fun w' ⟨s, hw⟩ i v hv => by
                          rw [hw, addr_row _ rfl, Nat.zero_add]
                          exact (KT.out.below s.below).cell i v hv
                        have LD2 : Hid (∀ w', (∃ s : Ext wr, w' = s.at_) → ∀ i v, (encE fx)[i]? = some v → w'.cell? ((⟨b1, o1 + t * 34, none⟩ : Addr).add i) = some v) := Lib.hid fun w' ⟨s, hw⟩ i v hv => by
                          rw [hw]
                          exact AT.out _ s.below i v hv
                        clear hat het hu heq hfe hall hlt ht hbt AT
                        as_aux_lemma =>
                          go_upto_region 32 with fail
                          refine wp_region_ext (by kernel_rfl) (by kernel_rfl) ?_
                          repeat (first
                            | (refine wpQuiet_loadS (by rfl) 39 (.tmp 22) rfl ⟨g7, 0, none⟩ rfl (encE fx) Tryz.isAgg39 IX.out LD1.out ?_)
                            | (refine wpQuiet_loadS (by rfl) 39 (.tmp 177) rfl ⟨b1, o1 + t * 34, none⟩ rfl (encE fx) Tryz.isAgg39 IX.out LD2.out ?_)
                            | quiet_step (fail)
                            | go_big_quiet_step (fail))
                          refine wpQuiet_nil ?_
                          rintro _ ⟨s9, rfl⟩
                          go_wp2
                          go_ret
                          exact ⟨rfl, LT.out.trans (s9.below.mono LT.out.size)⟩
                      · have hs1 : (u.toList == nb.toList) = false := by rw [hu, NBN.out, ba_eq, decide_eq_false heq]
                        have hall2 : ∀ i, i < t + 1 → us[i]!.nm ≠ nl := fun i hi => by
                          by_cases h : i < t
                          · exact hall i h
                          · have : i = t := by omega
                            subst this
                            rw [← het]
                            exact heq
                        have HA2 := Lib.hid hall2
                        clear hat het hu heq hall hall2 hlt ht hbt
                        as_aux_lemma =>
                          go_wp2
                          go_roundw
                          case measure => exact meas_step q t HLT.out
                          case rel => exact ⟨t + 1, HLT.out, by go_num, HA2.out, BT.out⟩
                    · have t1 : ¬ ((t : Int) < (q : Int)) := by omega
                      have hmiss := findE_miss nl us (fun j hj => hall j (by rw [UL.out] at hj; omega))
                      rw [FE.out] at hmiss
                      obtain ⟨h1, h2⟩ := Prod.mk.inj hmiss
                      subst h1
                      subst h2
                      have eqZ : ∀ w, (binOp .eql 39 (.agg zeroE.toArray) (.agg zeroE.toArray)).run Tryz.prog w = .ok (.bool true) w := fun w => eqlE_self ⟨[], false, default⟩ w
                      have guZ : ∀ op p q w, (eqGuard op 39 p q (.agg zeroE.toArray) (.agg zeroE.toArray)).run Tryz.prog w = .ok () w := fun op p q w => eqlAtE.2 op p q (⟨[], false, default⟩ : Ent) ⟨[], false, default⟩ w
                      have KZ : Hid (Blk wr g7 39 zeroE) := Lib.hid KT.out
                      clear hall hlt ht hbt hmiss
                      as_aux_lemma =>
                        go_wp2_with (first
                          | (refine wpl_guard (by rfl) ?_; refine wpl_loadS rfl 39 (.tmp 22) rfl ⟨g7, 0, none⟩ rfl zeroE Tryz.isAgg39 infoZ (fun j u hu => by rw [addr_row _ rfl, Nat.zero_add]; exact KZ.out.cell j u hu) ?_)
                          | (refine wpl_guard (by rfl) ?_; refine wpl_buildP rfl 39 [] rfl zeroE built_zeroE ?_))
                        go_ret
                        exact ⟨rfl, LT.out⟩
end Go.Proofs.YtcomibocajjhoaaGreatDoor
