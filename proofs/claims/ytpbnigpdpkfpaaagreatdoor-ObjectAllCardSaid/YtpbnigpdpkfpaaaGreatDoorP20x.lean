/- ref5.GetTree: the document's tree from bytes is the program's. colporteurlaw6.entries: rows of the same entries. TreeAll: entries as bytes, and back; any bytes; names, paths: the law's walk. ref5.GetObject: an object from bytes. (printed by wip/genRy.py) ref5.May: may it be an object? object.May: may it be an object? Of all kinds, in one walk. object.Put: an object's bytes, or none. object.Id: an object's name. object.Links: nothing. object.Links: a commit's. ObjectOwn: what is read is the caller's own; links are a copy: the law's walk. -/
import Derived.Test.YtpbnigpdpkfpaaaGreatDoorP14x
import Derived.Test.YtpbnigpdpkfpaaaGreatDoorP4x
import Derived.Test.YtpbnigpdpkfpaaaGreatDoorP5x
import Derived.Deep.CutBlock
import Derived.Test.YtpbnigpdpkfpaaaGreatDoorP7x
import Derived.Test.YtpbnigpdpkfpaaaGreatDoorEe
import Derived.Test.YtpbnigpdpkfpaaaGreatDoorBn
import Derived.Test.YtpbnigpdpkfpaaaGreatDoorP16x
import Derived.Test.YtpbnigpdpkfpaaaGreatDoorP19x
import Derived.Test.YtpbnigpdpkfpaaaGreatDoorPt
import Derived.Test.YtpbnigpdpkfpaaaGreatDoorP8x
import Derived.Test.YtpbnigpdpkfpaaaGreatDoorP17x
import Derived.Test.YtpbnigpdpkfpaaaGreatDoorGc
import Derived.Test.YtpbnigpdpkfpaaaGreatDoorP18x
import Derived.Test.YtpbnigpdpkfpaaaGreatDoorMc
import Derived.Test.YtpbnigpdpkfpaaaGreatDoorP15x
namespace Go.Proofs.YtpbnigpdpkfpaaaGreatDoor
open Go.RowKit
/-- What ref5.GetTree tells. -/
def RGetTPost (W : World) (l : List UInt8) (e : Ending) (W' : World) : Prop := match getT l with
  | some es => ∃ A c, e = .returned (.tuple #[.slice A es.length c, .bool true]) ∧ RowQ W' W.heap.size 99 34 (.slice A es.length c) es.length (entE.row es) ∧ Below W.heap.size W W'
  | none => e = .returned (.tuple #[.slice none 0 0, .bool false]) ∧ Below W.heap.size W W'
theorem oneT_is (xl : List UInt8) : oneT xl = if nmLen (xl.drop 2) + 35 ≤ xl.length ∧ xl.getD 1 0 = 32 ∧ (xl.getD 0 0 = 100 ∨ xl.getD 0 0 = 102) then
    some (⟨(xl.drop 2).take (nmLen (xl.drop 2)), decide (xl.getD 0 0 = 100), idAt (xl.drop 2)⟩, (xl.drop 2).drop (nmLen (xl.drop 2) + 33)) else none := by
  match xl with
  | [] => rfl
  | [c] => rw [if_neg (by simp)]; rfl
  | c :: d :: r =>
    show oneT (c :: d :: r) = if nmLen r + 35 ≤ r.length + 2 ∧ d = 32 ∧ (c = 100 ∨ c = 102) then some (⟨r.take (nmLen r), decide (c = 100), idAt r⟩, r.drop (nmLen r + 33)) else none
    rw [oneT]
    by_cases h : d = 32 ∧ (c = 100 ∨ c = 102) ∧ nmLen r + 33 ≤ r.length
    · rw [if_pos h, if_pos ⟨by omega, h.1, h.2.1⟩]
      rfl
    · rw [if_neg h, if_neg (fun hh => h ⟨hh.2.1, hh.2.2, by omega⟩)]
theorem nm_before {r : List UInt8} {p : Nat} (h : p < nmLen r) : ∃ hp : p < r.length, r[p] ≠ 0 := by
  have hl := nmLen_le r
  have h1 : p < r.length := by omega
  refine ⟨h1, ?_⟩
  have h2 : (r.takeWhile (· ≠ 0))[p]'h = r[p] := by
    have := List.takeWhile_prefix (p := fun x : UInt8 => decide (x ≠ 0)) (l := r)
    exact this.getElem h
  have h3 := List.all_takeWhile (p := fun x : UInt8 => decide (x ≠ 0)) (l := r)
  have h4 := List.all_eq_true.1 h3 _ (List.getElem_mem h)
  rw [← h2]
  simpa using h4
theorem nm_at : ∀ {r : List UInt8} (h : nmLen r < r.length), r[nmLen r] = 0 := by
  intro r
  induction r with
  | nil => intro h; simp at h
  | cons c r ih =>
    intro h
    by_cases hc : c = 0
    · subst hc
      have e : nmLen (0 :: r) = 0 := by simp [nmLen]
      simp [e]
    · have e : nmLen (c :: r) = nmLen r + 1 := by simp [nmLen, hc]
      have h2 : nmLen r < r.length := by rw [e, List.length_cons] at h; omega
      have := ih h2
      simpa [e] using this
/-- The cells of an entry of which q bytes of the name are laid. -/
def partE (nb : ByteArray) (b : Bool) (ids : List UInt8) (q : Nat) : List Value := [.string nb, .bool b] ++ Bs (ids.take q ++ List.replicate (32 - q) 0)
theorem partE_zero (nm : List UInt8) (b : Bool) (ids : List UInt8) : partE ⟨nm.toArray⟩ b ids 0 = encE ⟨nm, b, default⟩ := rfl
theorem partE_len (nb : ByteArray) (b : Bool) (ids : List UInt8) (q : Nat) (hi : ids.length = 32) (hq : q ≤ 32) : (partE nb b ids q).length = 34 := by
  simp [partE, hi]
  omega
theorem partE_next (nb : ByteArray) (b : Bool) (ids : List UInt8) (q : Nat) (hi : ids.length = 32) (hq : q < 32) : (partE nb b ids q).set (2 + q) (.int .u8 (ub (ids.getD q 0))) = partE nb b ids (q + 1) := by
  unfold partE
  have e1 : ∀ (v : Value) (L : List Value), ([Value.string nb, .bool b] ++ L).set (2 + q) v = [Value.string nb, .bool b] ++ L.set q v := fun v L => by
    rw [List.set_append_right _ _ (by simp)]
    congr 2
    simp
  rw [e1, Bs_set]
  congr 2
  have e2 : List.replicate (32 - q) (0 : UInt8) = 0 :: List.replicate (32 - (q + 1)) 0 := by rw [← List.replicate_succ]; congr 1; omega
  have hql : q < ids.length := by omega
  rw [List.set_append_right _ _ (by rw [List.length_take]; omega), List.length_take, show q - min q ids.length = 0 by omega, e2, List.set_cons_zero, List.take_succ_eq_append_getElem hql, List.getD_eq_getElem?_getD, List.getElem?_eq_getElem hql, Option.getD_some, List.append_assoc]
  rfl
theorem partE_full (nm : List UInt8) (b : Bool) (r : List UInt8) (h : nmLen r + 33 ≤ r.length) : partE ⟨nm.toArray⟩ b ((r.drop (nmLen r + 1)).take 32) 32 = encE ⟨nm, b, idAt r⟩ := by
  have hl : ((r.drop (nmLen r + 1)).take 32).length = 32 := by rw [List.length_take, List.length_drop]; omega
  have hid : idAt r = ⟨(r.drop (nmLen r + 1)).take 32, hl⟩ := Subtype.ext (by
    show (((r.drop (nmLen r + 1)).take 32) ++ List.replicate 32 0).take 32 = _
    rw [List.take_append_of_le_length (by omega), List.take_of_length_le (l := (r.drop (nmLen r + 1)).take 32) (by omega)])
  rw [hid]
  unfold partE encE encI
  rw [List.take_of_length_le (l := (r.drop (nmLen r + 1)).take 32) (by omega), Nat.sub_self, List.replicate_zero, List.append_nil]
theorem meas_step (k j : Nat) (h : j < k) : k - (intOf (.int .i64 ((j : Int) + 1))).toNat < k - (intOf (.int .i64 (j : Int))).toNat := by
  simp only [intOf]
  omega
theorem ba_at (x : ByteArray) (k : Nat) (h : k < x.size) : x[k]'h = x.data.toList.getD k 0 := by
  have h2 : k < x.data.toList.length := by rw [← ba_size]; exact h
  rw [ByteArray.getElem_eq_getElem_data, ← Array.getElem_toList, List.getD_eq_getElem?_getD, List.getElem?_eq_getElem h2, Option.getD_some]
theorem laidP (w : World) (cs : List Value) : Below w.heap.size w ((w.alloc (.cells zeroE.toArray 99)).setRow w.heap.size cs.toArray) ∧ Blk ((w.alloc (.cells zeroE.toArray 99)).setRow w.heap.size cs.toArray) w.heap.size 99 cs :=
  ⟨below_setRow' ((Below.refl _ _).alloc (Nat.le_refl _) _) (Nat.le_refl _) _, (Blk.new w 99 zeroE).row _⟩
set_option maxRecDepth 20000 in
set_option maxHeartbeats 6400000 in
theorem rgetTree_any (W : World) (s : ByteArray) (l : List UInt8) (hl : l = s.data.toList) (hs : s.size < 4294967281) : Calls Tryz.prog 76 #[.string s] W (RGetTPost W l) := by
  have hls : l.length = s.size := by rw [hl, ← ba_size]
  have I0 : GetIn W l s [] (.slice none 0 0) W := ⟨RowQ.nil _ _ _ _, Below.refl _ _, by simp [hls], fun e he => absurd he (by simp), (by rw [hl]; cases getL s.data.toList <;> rfl)⟩
  have K0 := Lib.hid I0
  have HS := Lib.hid (show l.length < 4294967281 by omega)
  clear hl hs hls I0
  go_enter Tryz.func76, Tryz.ntmps76
  go_upto_region 3 with fail
  go_loopw [4, 5] (fun v b wr => ∃ (x : ByteArray) (es : List Ent), b = .string x ∧ GetIn W l x es v wr) (fun _ b _ => match b with | .string x => x.size | _ => 0)
  case atStart => exact ⟨s, [], rfl, K0.out⟩
  case round =>
    obtain ⟨x, es, rfl, hI⟩ := hrel
    clear K0
    obtain ⟨v0, hv0⟩ : ∃ v, v = wr := ⟨_, rfl⟩
    subst hv0
    have HI := Lib.hid hI
    clear hI
    obtain ⟨A1, c1, rfl, hc1, hm1⟩ := HI.out.row.shape
    by_cases hx : x.data.toList = []
    · have hx0 : x = ⟨#[]⟩ := ba_ext (by rw [hx])
      subst hx0
      have hget : getL l = some es := by rw [HI.out.get]; show some (es ++ []) = _; rw [List.append_nil]
      have hT : getT l = if mayT es = true then some es else none := by unfold getT; rw [hget]; rfl
      have hle := HI.out.sum
      have cM := fun w (hw : Below v0.heap.size v0 w) => refMayTree_any w A1 es.length c1 es (entE.src_below (HI.out.row.src (entE.row_one _)) hw) (by have := HS.out; omega) (fun e he => by have := HI.out.fit e he; have := HS.out; simp only [maxLen]; omega)
      have HT := Lib.hid hT
      cases hm : mayT es
      all_goals
        rw [hm] at HT
        simp only [hm] at cM
        have CM := Lib.hid cM
        clear cM hm hget hT hx hle
        go_wp2_with (go_at_call 68; refine (CM.out _ (Below.refl _ _)).mono ?_; rintro e w1 ⟨rfl, h1⟩; have B1 := Lib.hid h1; clear h1)
        go_ret2
        unfold RGetTPost
        rw [HT.out]
        first
          | exact ⟨rfl, HI.out.low.trans (B1.out.mono HI.out.low.size)⟩
          | exact ⟨A1, c1, rfl, HI.out.row.below B1.out, HI.out.low.trans (B1.out.mono HI.out.low.size)⟩
    · have hne : x.toList.isEmpty = false := by rw [ByteArray.toList_eq]; simpa using hx
      have hxs : x.size < 4294967281 := by have := HI.out.sum; have := HS.out; omega
      obtain ⟨xl, hxl⟩ : ∃ xl, xl = x.data.toList := ⟨_, rfl⟩
      have hz : xl.length = x.size := by rw [hxl, ← ba_size]
      obtain ⟨p, hp⟩ : ∃ p, p = nmLen (xl.drop 2) := ⟨_, rfl⟩
      have hple := nmLen_le (xl.drop 2)
      rw [← hp, List.length_drop] at hple
      have HX := Lib.hid hx
      have HXL := Lib.hid hxl
      have HZ := Lib.hid hz
      have HP := Lib.hid hp
      have HPL := Lib.hid hple
      have HXS := Lib.hid hxs
      clear hx hxl hz hp hple hxs
      obtain ⟨k, hkp⟩ : ∃ k, k = p + 2 := ⟨_, rfl⟩
      have HKP := Lib.hid hkp
      clear hkp hne hc1 hm1
      have hne : x.toList.isEmpty = false := by rw [ByteArray.toList_eq, ← HXL.out]; have := HX.out; rw [← HXL.out] at this; simpa using this
      go_upto_block 2 with fail
      go_cut [6] (fun kv wx => kv = .int .i64 k ∧ wx = v0)
      case first =>
        as_aux_lemma =>
          go_wp2_with fail
          go_loopw [6] (fun i wx => ∃ j : Nat, 2 ≤ j ∧ j ≤ k ∧ i = .int .i64 j ∧ wx = v0) (fun i _ => k - (intOf i).toNat)
          case atStart => exact ⟨2, Nat.le_refl _, by have := HKP.out; omega, rfl, rfl⟩
          case round =>
            obtain ⟨j, hj2, hjk, rfl, hw⟩ := hrel
            have hw1 := hw.symm
            subst hw1
            clear hw
            by_cases hlt : j < k
            · have hb : ∃ h : j < x.size, x[j]'h ≠ 0 := by
                obtain ⟨h1, h2⟩ := nm_before (r := xl.drop 2) (p := j - 2) (by rw [← HP.out]; have := HKP.out; omega)
                rw [List.length_drop] at h1
                have h3 : j < x.size := by have := HZ.out; omega
                refine ⟨h3, ?_⟩
                rw [List.getElem_drop] at h2
                rw [ba_at x j h3, ← HXL.out, List.getD_eq_getElem?_getD, List.getElem?_eq_getElem (by have := HZ.out; omega), Option.getD_some]
                have e : 2 + (j - 2) = j := by omega
                simpa only [e] using h2
              obtain ⟨hjz, hj0⟩ := hb
              have k1 : (j : Int) < (x.size : Int) := by omega
              have jb : wrap64 ((j : Int) + 1) = (j : Int) + 1 := by have := HXS.out; unfold wrap64; omega
              have hv : (((x[j]'hjz).toNat : Int) != 0) = true := by
                rw [bne_iff_ne]
                intro e
                exact hj0 (UInt8.toNat_inj.1 (by have : (0 : UInt8).toNat = 0 := rfl; omega))
              have HLT := Lib.hid hlt
              have HJ2 := Lib.hid hj2
              clear hj2 hjk hlt hj0
              go_wp2
              go_roundw
              case measure => first | exact meas_step k j HLT.out | (rw [jb]; exact meas_step k j HLT.out)
              case rel => exact ⟨j + 1, by have := HJ2.out; omega, HLT.out, by go_num, by first | trivial | rfl⟩
            · have hjk' : j = k := by omega
              subst hjk'
              have hex : ((x.size : Int) ≤ (j : Int)) ∨ ∃ h : j < x.size, (((x[j]'h).toNat : Int) != 0) = false := by
                by_cases hkz : j < x.size
                · refine .inr ⟨hkz, ?_⟩
                  have hq := HKP.out
                  have h1 := nm_at (r := xl.drop 2) (by rw [← HP.out, List.length_drop]; have := HZ.out; omega)
                  rw [List.getElem_drop] at h1
                  have h2 : x[j]'hkz = 0 := by
                    rw [ba_at x j hkz, ← HXL.out, List.getD_eq_getElem?_getD, List.getElem?_eq_getElem (by have := HZ.out; omega), Option.getD_some, ← h1]
                    have e : 2 + nmLen (xl.drop 2) = j := by rw [← HP.out]; omega
                    simp only [e]
                  rw [h2]
                  rfl
                · exact .inl (by omega)
              clear hj2 hjk hlt
              rcases hex with hk1 | ⟨hkz, hv⟩
              · go_wp2
                go_meet
                exact ⟨rfl, by first | trivial | rfl⟩
              · have k1 : (j : Int) < (x.size : Int) := by omega
                go_wp2
                go_meet
                exact ⟨rfl, by first | trivial | rfl⟩
      case rest =>
        obtain ⟨rfl, hw⟩ := hcut
        have hw1 := hw.symm
        subst hw1
        clear hw
        have kz : k ≤ 4294967290 := by have := HPL.out; have := HZ.out; have := HKP.out; have := HXS.out; omega
        obtain ⟨m, hm⟩ : ∃ m, m = k + 33 := ⟨_, rfl⟩
        have kb : wrap64 ((k : Int) + 33) = (m : Int) := by unfold wrap64; omega
        obtain ⟨k', hk'⟩ : ∃ k', k' = k + 1 := ⟨_, rfl⟩
        have kc : wrap64 ((k : Int) + 1) = (k' : Int) := by unfold wrap64; omega
        have KZ := Lib.hid kz
        have HM := Lib.hid hm
        have HK := Lib.hid hk'
        clear hm hk'
        clear kz
        by_cases hbig : p + 35 ≤ x.size
        · have k33 : (m : Int) ≤ (x.size : Int) := by have := HKP.out; have := HM.out; omega
          have x1 : (1 : Int) < (x.size : Int) := by omega
          have x0 : (0 : Int) < (x.size : Int) := by omega
          have z0 : 0 < x.size := by omega
          have z1 : 1 < x.size := by omega
          obtain ⟨c0, hc0⟩ : ∃ c, x[0]'z0 = c := ⟨_, rfl⟩
          obtain ⟨c1', hc1'⟩ : ∃ c, x[1]'z1 = c := ⟨_, rfl⟩
          have g0 : xl.getD 0 0 = c0 := by rw [HXL.out, ← ba_at x 0 z0, hc0]
          have g1 : xl.getD 1 0 = c1' := by rw [HXL.out, ← ba_at x 1 z1, hc1']
          have hone := oneT_is xl
          rw [← HP.out, g0, g1] at hone
          have HB := Lib.hid hbig
          by_cases h32 : c1' = 32
          · have v1 : (((x[1]'z1).toNat : Int) != 32) = false := by rw [hc1', h32]; rfl
            by_cases hd : c0 = 100 ∨ c0 = 102
            · rw [if_pos ⟨by have := HZ.out; omega, h32, hd⟩] at hone
              obtain ⟨r, hr⟩ : ∃ r, r = xl.drop 2 := ⟨_, rfl⟩
              have hrz : r.length + 2 = x.size := by rw [hr, List.length_drop]; have := HZ.out; omega
              have hpr : p = nmLen r := by rw [hr]; exact HP.out
              obtain ⟨nm, hnm⟩ : ∃ nm, nm = r.take p := ⟨_, rfl⟩
              obtain ⟨ids, hids⟩ : ∃ ids, ids = (r.drop (p + 1)).take 32 := ⟨_, rfl⟩
              have hil : ids.length = 32 := by rw [hids, List.length_take, List.length_drop]; omega
              obtain ⟨nb, hnb⟩ : ∃ nb : ByteArray, x.extract 2 k = nb := ⟨_, rfl⟩
              have hnn : nb = ⟨nm.toArray⟩ := by
                rw [← hnb]
                refine ba_ext ?_
                rw [ba_extract, ← HXL.out, hnm, hr, HKP.out, List.drop_take]
                congr 1
              obtain ⟨b, hb⟩ : ∃ b, b = decide (c0 = 100) := ⟨_, rfl⟩
              have hp0 : partE nb b ids 0 = encE ⟨nm, b, default⟩ := by rw [hnn]; exact partE_zero nm b ids
              have hp32 : partE nb b ids 32 = encE ⟨nm, b, idAt r⟩ := by rw [hnn, hids, hpr]; exact partE_full nm b r (by omega)
              have bu : Tryz.prog.built 99 [(0, .string nb), (1, .bool b)] = some (partE nb b ids 0).toArray := by
                rw [built_nameE nb b, hp0, hnn]
              have hbyte : ∀ q, q < 32 → ∃ h : k' + q < x.size, x[k' + q]'h = ids.getD q 0 := fun q hq => by
                have h1 : k' + q < x.size := by have := HK.out; have := HKP.out; omega
                refine ⟨h1, ?_⟩
                have h2 : q < ids.length := by omega
                rw [ba_at x _ h1, ← HXL.out]
                simp only [hids, hr, List.getD_eq_getElem?_getD, List.getElem?_take, if_pos hq, List.getElem?_drop]
                have e : 2 + (p + 1 + q) = k' + q := by have := HK.out; have := HKP.out; omega
                rw [e]
              rw [← hr, ← hnm, ← hb] at hone
              have ho : oneT x.data.toList = some (⟨nm, b, idAt r⟩, r.drop (p + 33)) := by rw [← HXL.out, hone]
              have hlast : ∀ z : ByteArray, z = x.extract m x.size → z = ⟨(r.drop (p + 33)).toArray⟩ := fun z hz => ba_ext (by
                rw [hz, ba_from, ← HXL.out, hr, List.drop_drop]
                congr 1
                have := HM.out
                have := HKP.out
                omega)
              have hend : (x.extract m x.size).size < x.size := by rw [ByteArray.size_extract]; have := HM.out; omega
              have htb : ∀ q : Nat, q < 32 → wrap64 ((k' : Int) + (q : Int)) = ((k' + q : Nat) : Int) := fun q hq => by
                have := KZ.out
                have := HK.out
                unfold wrap64
                omega
              have HTB := Lib.hid htb
              have HES := Lib.hid (show es.length + 1 ≤ 4294967281 from by have := HI.out.sum; have := HS.out; omega)
              have HO := Lib.hid ho
              have HLA := Lib.hid hlast
              have HEN := Lib.hid hend
              have HBY := Lib.hid hbyte
              have BU := Lib.hid bu
              have P0 := Lib.hid hp0
              have P32 := Lib.hid hp32
              have HIL := Lib.hid hil
              have k2 : (2 : Int) ≤ (k : Int) := by have := HKP.out; omega
              have kx : (k : Int) ≤ (x.size : Int) := by have := HKP.out; omega
              have hv1 : (((x[0]'z0).toNat : Int) == 100) = b := by
                rw [hb, hc0, Bool.eq_iff_iff, beq_iff_eq, decide_eq_true_eq]
                constructor
                · intro h
                  exact UInt8.toNat_inj.1 (by have : (100 : UInt8).toNat = 100 := rfl; omega)
                · rintro rfl; rfl
              have hv2 : (((x[0]'z0).toNat : Int) != 100) = !b := by rw [← hv1]; rfl
              have hv3 : b = false → (((x[0]'z0).toNat : Int) != 102) = false := fun h => by
                rcases hd with rfl | rfl
                · rw [hb] at h; cases h
                · rw [hc0]; rfl
              have HV3 := Lib.hid hv3
              clear htb hrz hpr hnm hids hil hnn hp0 hp32 bu hbyte hone ho hlast hend hv3 hd h32 g0 g1 hc0 hc1' hbig hb hr
              as_aux_lemma =>
                cases b
                · have v3 := HV3.out rfl
                  clear HV3
                  go_upto_region 9 with fail
                  refine wp_region_any (by kernel_rfl) ?_
                  change wpAny _ _ _ _ _ _ _ (World.drew _)
                  have BD := Lib.hid (HI.out.low.drew)
                  have RD : Hid (RowQ v0.drew W.heap.size 99 34 (.slice A1 es.length c1) es.length (entE.row es)) := Lib.hid HI.out.row.drew
                  generalize World.drew v0 = v1 at BD RD ⊢
                  refine wpAny_bare [0, 1, 2, 3, 4, 5] 3 (by rfl) (by kernel_rfl) (fun _ _ _ d _ h => by cases d <;> exact h) ?_
                  simp only [bareO, List.filterMap_cons, List.filterMap_nil, List.getElem?_toArray, List.getElem?_cons_succ, List.getElem?_cons_zero]
                  repeat (first | quiet_step (fail) | go_big_quiet_step (fail))
                  refine wpQuiet_nil ?_
                  have PI := Lib.hid (show (Tryz.prog.info? 99).map (·.size) = some (partE nb false ids 0).length from by rw [P0.out]; exact infoE _)
                  have PO := Lib.hid (show ∀ v ∈ partE nb false ids 0, v.oneCell' = true from by rw [P0.out]; exact entE.one _)
                  have PL := Lib.hid (partE_len nb false ids 0 HIL.out (by omega))
                  refine wpAny_ready (rs := [6, 7]) (by kernel_rfl) (by simp) ?_
                  refine (AllReady.cons rfl (fun K hK => ?_) (AllReady.cons rfl (fun K hK => ?_) AllReady.nil))
                  refine step_build (by rfl) 99 [(0, .tmp 46), (1, .tmp 49)] rfl (partE nb false ids 0).toArray BU.out ?_
                  refine hK _ _ ?_
                  clear hK K
                  refine wpAny_ready (rs := [7]) (by kernel_rfl) (by simp) ?_
                  refine (AllReady.cons rfl (fun K hK => ?_) AllReady.nil)
                  go_simp
                  refine hK _ _ ?_
                  clear hK K
                  refine wpAny_ready (rs := [8]) (by kernel_rfl) (by simp) ?_
                  refine (AllReady.cons rfl (fun K hK => ?_) AllReady.nil)
                  refine step_storeS (by rfl) 99 (.tmp 7) (.tmp 50) rfl v1.heap.size (partE nb false ids 0) rfl rfl 99 zeroE (Blk.new v1 _ _) PI.out (by rw [PL.out]; rfl) PO.out ?_
                  refine hK _ _ ?_
                  clear hK K
                  refine wpAny_done (by kernel_rfl) ?_ _
                  rotate_left
                  go_simp
                  refine hK _ _ ?_
                  clear hK K
                  refine wpAny_ready (rs := [6]) (by kernel_rfl) (by simp) ?_
                  refine (AllReady.cons rfl (fun K hK => ?_) AllReady.nil)
                  refine step_build (by rfl) 99 [(0, .tmp 46), (1, .tmp 49)] rfl (partE nb false ids 0).toArray BU.out ?_
                  refine hK _ _ ?_
                  clear hK K
                  refine wpAny_ready (rs := [8]) (by kernel_rfl) (by simp) ?_
                  refine (AllReady.cons rfl (fun K hK => ?_) AllReady.nil)
                  refine step_storeS (by rfl) 99 (.tmp 7) (.tmp 50) rfl v1.heap.size (partE nb false ids 0) rfl rfl 99 zeroE (Blk.new v1 _ _) PI.out (by rw [PL.out]; rfl) PO.out ?_
                  refine hK _ _ ?_
                  clear hK K
                  refine wpAny_done (by kernel_rfl) ?_ _
                  all_goals
                    generalize hw : World.setRow _ _ _ = w2
                    have E2 : Hid (Below v1.heap.size v1 w2) := Lib.hid (by rw [← hw]; exact (laidP v1 _).1)
                    have K2 : Hid (Blk w2 v1.heap.size 99 (partE nb false ids 0)) := Lib.hid (by rw [← hw]; exact (laidP v1 _).2)
                    clear hw PI PO PL
                    obtain ⟨g, hg⟩ : ∃ g, g = v1.heap.size := ⟨_, rfl⟩
                    rw [← hg] at K2 ⊢
                    have HGG := Lib.hid hg
                    clear hg
                    go_upto_block 4 with fail
                    go_cut [8] (fun _ wx => Below v1.heap.size v1 wx ∧ Blk wx g 99 (partE nb false ids 32))
                    case first =>
                      go_wp2_with fail
                      go_loopw [8] (fun i wx => ∃ q : Nat, q ≤ 32 ∧ i = .int .i64 q ∧ Below v1.heap.size v1 wx ∧ Blk wx g 99 (partE nb false ids q)) (fun i _ => 32 - (intOf i).toNat)
                      case atStart => exact ⟨0, Nat.zero_le _, rfl, E2.out, K2.out⟩
                      case round =>
                        obtain ⟨q, hq, rfl, hb, hk⟩ := hrel
                        have HB := Lib.hid hb
                        have HQ := Lib.hid hk
                        by_cases hlt : q < 32
                        · obtain ⟨hxs, hxv⟩ := HBY.out q hlt
                          have tb := HTB.out q hlt
                          generalize k' + q = t at hxs hxv tb
                          have q1 : (q : Int) < 32 := by omega
                          have t1 : (t : Int) < (x.size : Int) := by omega
                          obtain ⟨u, hu⟩ : ∃ u, ub (ids.getD q 0) = u := ⟨_, rfl⟩
                          have hv : ((x[t]'hxs).toNat : Int) = u := by rw [hxv, ← hu]; rfl
                          obtain ⟨old, hcell⟩ : ∃ old, wr.cell? ⟨g, 2 + q, none⟩ = some old := ⟨_, hk.cell (2 + q) _ (List.getElem?_eq_getElem (by rw [partE_len nb false ids q HIL.out hq]; omega))⟩
                          have hfr := hk.frozen (2 + q)
                          have HLT := Lib.hid hlt
                          have HU := Lib.hid hu
                          clear hxv hu hb hk hq hlt
                          go_wp2
                          go_roundw
                          case measure => exact meas_step 32 q HLT.out
                          case rel =>
                            refine ⟨q + 1, HLT.out, by go_num, ?_, ?_⟩
                            · exact HB.out.trans (show Below v1.heap.size wr (wr.setCell ⟨g, 2 + q, none⟩ (.int .u8 u)) from ⟨rfl, rfl, rfl, by simp [World.setCell], fun i hi => heap_setCell_other wr ⟨g, 2 + q, none⟩ i _ (by show i ≠ g; rw [HGG.out]; exact Nat.ne_of_lt hi)⟩)
                            · rw [← partE_next nb false ids q HIL.out HLT.out, HU.out]
                              exact HQ.out.setCell (2 + q) _
                        · have h32 : q = 32 := by omega
                          subst h32
                          clear hb hk hq hlt
                          go_wp2
                          go_meet
                          exact ⟨HB.out, HQ.out⟩
                    case rest =>
                      obtain ⟨hb, hk⟩ := hcut
                      rw [P32.out] at hk
                      have RC := Lib.hid (RD.out.below hb)
                      have LC := Lib.hid (BD.out.trans (hb.mono BD.out.size))
                      have KC := Lib.hid hk
                      have IE := Lib.hid (infoE ⟨nm, false, idAt r⟩)
                      generalize (⟨nm, false, idAt r⟩ : Ent) = e at KC IE HO
                      clear hb hk E2 K2 RD BD HGG BU P0 P32 HIL HTB
                      go_wp2_with (first
                        | (refine wpl_loadS rfl 99 (.tmp 7) rfl ⟨g, 0, none⟩ rfl (encE e) Tryz.isAgg99 IE.out (fun j u hu => by rw [addr_row _ rfl, Nat.zero_add]; exact KC.out.cell j u hu) ?_)
                        | (refine wpl_buildE entE rfl 22 99 1 _ rfl [e] rfl rfl (.agg zeroE.toArray) 56 Tryz.underlying22 (by kernel_rfl) (by decide) (by decide) ?_; have R3 := Lib.hid (RC.out.alloc (.cells (entE.row [e]).toArray 99)); have L3 := Lib.hid (LC.out.alloc LC.out.size (.cells (entE.row [e]).toArray 99)); have S3 := Lib.hid (row_src entE wc 99 [e]); generalize wc.heap.size = g3 at S3 ⊢; generalize World.alloc wc (.cells (entE.row [e]).toArray 99) = w3 at R3 L3 S3 ⊢)
                        | (at_builtin; refine wpl_append rfl (.tmp 64) (.tmp 66) 22 rfl W.heap.size 99 (.agg zeroE.toArray) 34 56 Tryz.underlying22 (by kernel_rfl) rfl (by decide) (.slice A1 es.length c1) es.length (entE.row es) rfl R3.out (some ⟨g3, 0, none⟩) 1 1 (entE.row [e]) rfl S3.out (Nat.le_trans HES.out (by decide)) (Nat.le_trans (Nat.mul_le_mul_right 56 HES.out) (by decide)) L3.out.size ?_; intro v4 w4 hr4 hg4 ha4; have R4 := Lib.hid hr4; have L4 := Lib.hid (L3.out.grown hg4 L3.out.size (fun k e => (R3.out.lt k e).1)); clear hr4 hg4 ha4))
                      go_roundw
                      case measure => exact HEN.out
                      case rel =>
                        refine ⟨x.extract m x.size, es ++ [e], rfl, ?_⟩
                        rw [HLA.out _ rfl]
                        exact HI.out.next HX.out HO.out R4.out L4.out
                · clear HV3
                  go_upto_region 9 with fail
                  refine wp_region_any (by kernel_rfl) ?_
                  change wpAny _ _ _ _ _ _ _ (World.drew _)
                  have BD := Lib.hid (HI.out.low.drew)
                  have RD : Hid (RowQ v0.drew W.heap.size 99 34 (.slice A1 es.length c1) es.length (entE.row es)) := Lib.hid HI.out.row.drew
                  generalize World.drew v0 = v1 at BD RD ⊢
                  refine wpAny_bare [0, 1, 2, 3, 4, 5] 3 (by rfl) (by kernel_rfl) (fun _ _ _ d _ h => by cases d <;> exact h) ?_
                  simp only [bareO, List.filterMap_cons, List.filterMap_nil, List.getElem?_toArray, List.getElem?_cons_succ, List.getElem?_cons_zero]
                  repeat (first | quiet_step (fail) | go_big_quiet_step (fail))
                  refine wpQuiet_nil ?_
                  have PI := Lib.hid (show (Tryz.prog.info? 99).map (·.size) = some (partE nb true ids 0).length from by rw [P0.out]; exact infoE _)
                  have PO := Lib.hid (show ∀ v ∈ partE nb true ids 0, v.oneCell' = true from by rw [P0.out]; exact entE.one _)
                  have PL := Lib.hid (partE_len nb true ids 0 HIL.out (by omega))
                  refine wpAny_ready (rs := [6, 7]) (by kernel_rfl) (by simp) ?_
                  refine (AllReady.cons rfl (fun K hK => ?_) (AllReady.cons rfl (fun K hK => ?_) AllReady.nil))
                  refine step_build (by rfl) 99 [(0, .tmp 46), (1, .tmp 49)] rfl (partE nb true ids 0).toArray BU.out ?_
                  refine hK _ _ ?_
                  clear hK K
                  refine wpAny_ready (rs := [7]) (by kernel_rfl) (by simp) ?_
                  refine (AllReady.cons rfl (fun K hK => ?_) AllReady.nil)
                  go_simp
                  refine hK _ _ ?_
                  clear hK K
                  refine wpAny_ready (rs := [8]) (by kernel_rfl) (by simp) ?_
                  refine (AllReady.cons rfl (fun K hK => ?_) AllReady.nil)
                  refine step_storeS (by rfl) 99 (.tmp 7) (.tmp 50) rfl v1.heap.size (partE nb true ids 0) rfl rfl 99 zeroE (Blk.new v1 _ _) PI.out (by rw [PL.out]; rfl) PO.out ?_
                  refine hK _ _ ?_
                  clear hK K
                  refine wpAny_done (by kernel_rfl) ?_ _
                  rotate_left
                  go_simp
                  refine hK _ _ ?_
                  clear hK K
                  refine wpAny_ready (rs := [6]) (by kernel_rfl) (by simp) ?_
                  refine (AllReady.cons rfl (fun K hK => ?_) AllReady.nil)
                  refine step_build (by rfl) 99 [(0, .tmp 46), (1, .tmp 49)] rfl (partE nb true ids 0).toArray BU.out ?_
                  refine hK _ _ ?_
                  clear hK K
                  refine wpAny_ready (rs := [8]) (by kernel_rfl) (by simp) ?_
                  refine (AllReady.cons rfl (fun K hK => ?_) AllReady.nil)
                  refine step_storeS (by rfl) 99 (.tmp 7) (.tmp 50) rfl v1.heap.size (partE nb true ids 0) rfl rfl 99 zeroE (Blk.new v1 _ _) PI.out (by rw [PL.out]; rfl) PO.out ?_
                  refine hK _ _ ?_
                  clear hK K
                  refine wpAny_done (by kernel_rfl) ?_ _
                  all_goals
                    generalize hw : World.setRow _ _ _ = w2
                    have E2 : Hid (Below v1.heap.size v1 w2) := Lib.hid (by rw [← hw]; exact (laidP v1 _).1)
                    have K2 : Hid (Blk w2 v1.heap.size 99 (partE nb true ids 0)) := Lib.hid (by rw [← hw]; exact (laidP v1 _).2)
                    clear hw PI PO PL
                    obtain ⟨g, hg⟩ : ∃ g, g = v1.heap.size := ⟨_, rfl⟩
                    rw [← hg] at K2 ⊢
                    have HGG := Lib.hid hg
                    clear hg
                    go_upto_block 4 with fail
                    go_cut [8] (fun _ wx => Below v1.heap.size v1 wx ∧ Blk wx g 99 (partE nb true ids 32))
                    case first =>
                      go_wp2_with fail
                      go_loopw [8] (fun i wx => ∃ q : Nat, q ≤ 32 ∧ i = .int .i64 q ∧ Below v1.heap.size v1 wx ∧ Blk wx g 99 (partE nb true ids q)) (fun i _ => 32 - (intOf i).toNat)
                      case atStart => exact ⟨0, Nat.zero_le _, rfl, E2.out, K2.out⟩
                      case round =>
                        obtain ⟨q, hq, rfl, hb, hk⟩ := hrel
                        have HB := Lib.hid hb
                        have HQ := Lib.hid hk
                        by_cases hlt : q < 32
                        · obtain ⟨hxs, hxv⟩ := HBY.out q hlt
                          have tb := HTB.out q hlt
                          generalize k' + q = t at hxs hxv tb
                          have q1 : (q : Int) < 32 := by omega
                          have t1 : (t : Int) < (x.size : Int) := by omega
                          obtain ⟨u, hu⟩ : ∃ u, ub (ids.getD q 0) = u := ⟨_, rfl⟩
                          have hv : ((x[t]'hxs).toNat : Int) = u := by rw [hxv, ← hu]; rfl
                          obtain ⟨old, hcell⟩ : ∃ old, wr.cell? ⟨g, 2 + q, none⟩ = some old := ⟨_, hk.cell (2 + q) _ (List.getElem?_eq_getElem (by rw [partE_len nb true ids q HIL.out hq]; omega))⟩
                          have hfr := hk.frozen (2 + q)
                          have HLT := Lib.hid hlt
                          have HU := Lib.hid hu
                          clear hxv hu hb hk hq hlt
                          go_wp2
                          go_roundw
                          case measure => exact meas_step 32 q HLT.out
                          case rel =>
                            refine ⟨q + 1, HLT.out, by go_num, ?_, ?_⟩
                            · exact HB.out.trans (show Below v1.heap.size wr (wr.setCell ⟨g, 2 + q, none⟩ (.int .u8 u)) from ⟨rfl, rfl, rfl, by simp [World.setCell], fun i hi => heap_setCell_other wr ⟨g, 2 + q, none⟩ i _ (by show i ≠ g; rw [HGG.out]; exact Nat.ne_of_lt hi)⟩)
                            · rw [← partE_next nb true ids q HIL.out HLT.out, HU.out]
                              exact HQ.out.setCell (2 + q) _
                        · have h32 : q = 32 := by omega
                          subst h32
                          clear hb hk hq hlt
                          go_wp2
                          go_meet
                          exact ⟨HB.out, HQ.out⟩
                    case rest =>
                      obtain ⟨hb, hk⟩ := hcut
                      rw [P32.out] at hk
                      have RC := Lib.hid (RD.out.below hb)
                      have LC := Lib.hid (BD.out.trans (hb.mono BD.out.size))
                      have KC := Lib.hid hk
                      have IE := Lib.hid (infoE ⟨nm, true, idAt r⟩)
                      generalize (⟨nm, true, idAt r⟩ : Ent) = e at KC IE HO
                      clear hb hk E2 K2 RD BD HGG BU P0 P32 HIL HTB
                      go_wp2_with (first
                        | (refine wpl_loadS rfl 99 (.tmp 7) rfl ⟨g, 0, none⟩ rfl (encE e) Tryz.isAgg99 IE.out (fun j u hu => by rw [addr_row _ rfl, Nat.zero_add]; exact KC.out.cell j u hu) ?_)
                        | (refine wpl_buildE entE rfl 22 99 1 _ rfl [e] rfl rfl (.agg zeroE.toArray) 56 Tryz.underlying22 (by kernel_rfl) (by decide) (by decide) ?_; have R3 := Lib.hid (RC.out.alloc (.cells (entE.row [e]).toArray 99)); have L3 := Lib.hid (LC.out.alloc LC.out.size (.cells (entE.row [e]).toArray 99)); have S3 := Lib.hid (row_src entE wc 99 [e]); generalize wc.heap.size = g3 at S3 ⊢; generalize World.alloc wc (.cells (entE.row [e]).toArray 99) = w3 at R3 L3 S3 ⊢)
                        | (at_builtin; refine wpl_append rfl (.tmp 64) (.tmp 66) 22 rfl W.heap.size 99 (.agg zeroE.toArray) 34 56 Tryz.underlying22 (by kernel_rfl) rfl (by decide) (.slice A1 es.length c1) es.length (entE.row es) rfl R3.out (some ⟨g3, 0, none⟩) 1 1 (entE.row [e]) rfl S3.out (Nat.le_trans HES.out (by decide)) (Nat.le_trans (Nat.mul_le_mul_right 56 HES.out) (by decide)) L3.out.size ?_; intro v4 w4 hr4 hg4 ha4; have R4 := Lib.hid hr4; have L4 := Lib.hid (L3.out.grown hg4 L3.out.size (fun k e => (R3.out.lt k e).1)); clear hr4 hg4 ha4))
                      go_roundw
                      case measure => exact HEN.out
                      case rel =>
                        refine ⟨x.extract m x.size, es ++ [e], rfl, ?_⟩
                        rw [HLA.out _ rfl]
                        exact HI.out.next HX.out HO.out R4.out L4.out
            · have ho : oneT x.data.toList = none := by rw [← HXL.out, hone, if_neg (fun h => hd h.2.2)]
              have hT : getT l = none := by unfold getT; rw [HI.out.get, getL_next HX.out, ho]; rfl
              have HT := Lib.hid hT
              have v2 : (((x[0]'z0).toNat : Int) != 100) = true := by
                rw [hc0, bne_iff_ne]
                intro e
                exact hd (.inl (UInt8.toNat_inj.1 (by have : (100 : UInt8).toNat = 100 := rfl; omega)))
              have v3 : (((x[0]'z0).toNat : Int) != 102) = true := by
                rw [hc0, bne_iff_ne]
                intro e
                exact hd (.inr (UInt8.toNat_inj.1 (by have : (102 : UInt8).toNat = 102 := rfl; omega)))
              clear hone ho hT hd h32 g0 g1 hc0 hc1' hbig
              as_aux_lemma =>
                go_wp2
                refine bodyPost_ret (v := .tuple #[.slice none 0 0, .bool false]) (results_tmp2 (t := 2) (u := 3) rfl _ _ _) rfl ?_
                unfold RGetTPost
                rw [HT.out]
                exact ⟨rfl, HI.out.low⟩
          · have ho : oneT x.data.toList = none := by rw [← HXL.out, hone, if_neg (fun h => h32 h.2.1)]
            have hT : getT l = none := by unfold getT; rw [HI.out.get, getL_next HX.out, ho]; rfl
            have HT := Lib.hid hT
            have v1 : (((x[1]'z1).toNat : Int) != 32) = true := by
              rw [hc1', bne_iff_ne]
              intro e
              exact h32 (UInt8.toNat_inj.1 (by have : (32 : UInt8).toNat = 32 := rfl; omega))
            clear hone ho hT h32 g0 g1 hc0 hc1' hbig
            as_aux_lemma =>
              go_wp2
              refine bodyPost_ret (v := .tuple #[.slice none 0 0, .bool false]) (results_tmp2 (t := 2) (u := 3) rfl _ _ _) rfl ?_
              unfold RGetTPost
              rw [HT.out]
              exact ⟨rfl, HI.out.low⟩
        · have ho : oneT x.data.toList = none := by
            rw [← HXL.out, oneT_is, if_neg]
            rintro ⟨h, _⟩
            rw [← HP.out, HZ.out] at h
            exact hbig h
          have hT : getT l = none := by unfold getT; rw [HI.out.get, getL_next HX.out, ho]; rfl
          have HT := Lib.hid hT
          have k33 : (m : Int) > (x.size : Int) := by have := HKP.out; have := HM.out; omega
          clear ho hT hbig
          as_aux_lemma =>
            go_wp2
            refine bodyPost_ret (v := .tuple #[.slice none 0 0, .bool false]) (results_tmp2 (t := 2) (u := 3) rfl _ _ _) rfl ?_
            unfold RGetTPost
            rw [HT.out]
            exact ⟨rfl, HI.out.low⟩
end Go.Proofs.YtpbnigpdpkfpaaaGreatDoor
namespace Go.Proofs.YtpbnigpdpkfpaaaGreatDoor
open Go.RowKit
end Go.Proofs.YtpbnigpdpkfpaaaGreatDoor
namespace Go.Proofs.YtpbnigpdpkfpaaaGreatDoor
open Go.RowKit
theorem Calls.grow {f : FuncId} {args : Array Value} {w : World} {v : Value} (h : Calls Tryz.prog f args w fun e w' => e = .returned v ∧ w' = w) : Calls Tryz.prog f args w fun e w' => e = .returned v ∧ Below w.heap.size w w' :=
  h.mono fun _ w' ⟨he, hw⟩ => ⟨he, by rw [hw]; exact Below.refl _ _⟩
end Go.Proofs.YtpbnigpdpkfpaaaGreatDoor
namespace Go.Proofs.YtpbnigpdpkfpaaaGreatDoor
open Go.RowKit
set_option maxRecDepth 20000 in
set_option maxHeartbeats 6400000 in
theorem rgetO_1 (W : World) (k : Int) (s : ByteArray) (l : List UInt8) (hl : l = s.data.toList) (_hs : s.size ≤ 1048576) (_hG : Gl W) (_hE : Ge W) (hk : k = 1) : Calls Tryz.prog 30 #[.int .i64 k, .string s] W (GetOPost W k l) := by
  have hls : l.length = s.size := by rw [hl, ← ba_size]
  have I0 := GtO.start W k
  have bu := built_kindO k
  have io := infoO ⟨k, [], [], noCom⟩ none 0 0 none 0 0
  have lo := objL_len ⟨k, [], [], noCom⟩ none 0 0 none 0 0
  have oo := objL_one ⟨k, [], [], noCom⟩ none 0 0 none 0 0
  obtain ⟨c0, hc0⟩ : ∃ c0, c0 = objL ⟨k, [], [], noCom⟩ none 0 0 none 0 0 := ⟨_, rfl⟩
  rw [← hc0] at I0 bu io lo oo
  have HC0 := Lib.hid hc0
  have BU := Lib.hid bu
  have IO := Lib.hid io
  have LO := Lib.hid lo
  have OO := Lib.hid oo
  obtain ⟨w1, hw1⟩ : ∃ w1, w1 = W.alloc (.cells zeroO.toArray 30) := ⟨_, rfl⟩
  have hz1 : w1.heap.size = W.heap.size + 1 := by rw [hw1, hsz]
  rw [← hw1] at I0
  have KI := Lib.hid I0
  have HW1 := Lib.hid hw1
  have HZ1 := Lib.hid hz1
  have HL := Lib.hid hl
  have HLS := Lib.hid hls
  subst hk
  clear _hs _hG _hE hl hls bu io lo oo hc0 I0 hw1 hz1
  go_enter Tryz.func30, Tryz.ntmps30
  go_upto_region 1 with fail
  change Code.wp _ _ _ _ (W.alloc (.cells zeroO.toArray 30))
  rw [← HW1.out]
  go_upto_region 2 with (first
    | (refine wpl_buildP rfl 30 _ rfl c0 BU.out ?_)
    | (refine wpl_storeS rfl 30 (.tmp 6) _ rfl w1.heap.size c0 rfl rfl 30 zeroO (Blk.new w1 _ _) IO.out (by rw [LO.out]; rfl) OO.out ?_))
  change Code.wp _ _ _ _ ((w1.alloc (.cells zeroO.toArray 30)).setRow w1.heap.size c0.toArray)
  rw [HZ1.out]
  generalize (w1.alloc (.cells zeroO.toArray 30)).setRow (W.heap.size + 1) c0.toArray = v0 at KI ⊢
  obtain ⟨g1, hg1⟩ : ∃ g1, g1 = W.heap.size + 1 := ⟨_, rfl⟩
  rw [← hg1] at KI
  rw [← hg1]
  obtain ⟨g0, hg0⟩ : ∃ g0, g0 = W.heap.size := ⟨_, rfl⟩
  rw [← hg0] at KI
  rw [← hg0]
  have HG0 := Lib.hid hg0
  clear hg0 hg1 HW1 HZ1 BU
  obtain ⟨⟨v1, hc1⟩, hf1⟩ : (∃ v, v0.cell? ⟨g1, 1, none⟩ = some v) ∧ v0.frozen? ⟨g1, 1, none⟩ = false := ⟨⟨_, KI.out.cur.cell 1 _ (List.getElem?_eq_getElem (by rw [LO.out]; omega))⟩, KI.out.cur.frozen 1⟩
  have K2 : Hid (GtO W (v0.setCell ⟨g1, 1, none⟩ (.string s)) g0 g1 (objL ⟨1, l, [], noCom⟩ none 0 0 none 0 0)) := Lib.hid (by
    have := KI.out.set 1 (.string s)
    rw [HC0.out] at this
    have e : s = ⟨l.toArray⟩ := ba_back s l HL.out
    rw [e] at this ⊢
    exact this)
  have ls := HLS.out
  by_cases hz : l.length ≤ 1000
  · have iz : ¬ ((1000 : Int) < (s.size : Int)) := by omega
    have hget := Lib.hid (show getO 1 l = (⟨1, l, [], noCom⟩, 0) by unfold getO; rw [if_pos rfl, if_pos hz])
    have i2 := Lib.hid (infoO ⟨1, l, [], noCom⟩ none 0 0 none 0 0)
    have l2 := Lib.hid (objL_len ⟨1, l, [], noCom⟩ none 0 0 none 0 0)
    have o2 := Lib.hid (objL_one ⟨1, l, [], noCom⟩ none 0 0 none 0 0)
    obtain ⟨c2, hc2⟩ : ∃ c2, c2 = objL ⟨1, l, [], noCom⟩ none 0 0 none 0 0 := ⟨_, rfl⟩
    rw [← hc2] at K2 i2 l2 o2
    have HC2 := Lib.hid hc2
    clear hz ls hc2
    go_wp2_with (first
      | (refine wpl_loadS rfl 30 (.tmp 6) rfl ⟨g1, 0, none⟩ rfl c2 Tryz.isAgg30 i2.out (fun j u hu => by rw [addr_row _ rfl, Nat.zero_add]; exact K2.out.cur.cell j u hu) ?_)
      | (refine wpl_storeS rfl 30 (.tmp 4) _ rfl g0 c2 rfl rfl 30 zeroO K2.out.res i2.out (by rw [l2.out]; rfl) o2.out ?_))
    refine bodyPost_ret (res_rowS2 rfl _ _ g0 30 c2 _ rfl (K2.out.res.row _) Tryz.underlying30 rfl i2.out) rfl ?_
    exact getO_ok hget.out none 0 none 0 (by rw [HC2.out]; rfl) (RowQ.nil _ _ _ _) (RowQ.nil _ _ _ _) (below_setRow' K2.out.low K2.out.p0 _)
  · have iz : (1000 : Int) < (s.size : Int) := by omega
    have hget := Lib.hid (show getO 1 l = (noOb, 5) by unfold getO; rw [if_pos rfl, if_neg hz])
    clear hz ls
    go_wp2_with (first
      | (refine wpl_build rfl 30 _ rfl zeroO (by kernel_rfl) ?_)
      | (refine wpl_storeS rfl 30 (.tmp 4) _ rfl g0 zeroO rfl rfl 30 zeroO KI.out.res infoZO rfl zeroO_one ?_))
    refine bodyPost_ret (res_rowS2 rfl _ _ g0 30 zeroO _ rfl (KI.out.res.row _) Tryz.underlying30 rfl infoZO) rfl ?_
    exact getO_err hget.out (by decide) rfl (below_setRow' KI.out.low KI.out.p0 _)
set_option maxRecDepth 20000 in
set_option maxHeartbeats 6400000 in
theorem rgetO_0 (W : World) (k : Int) (s : ByteArray) (l : List UInt8) (hl : l = s.data.toList) (_hs : s.size ≤ 1048576) (_hG : Gl W) (_hE : Ge W) (hk : k ≠ 1 ∧ k ≠ 2 ∧ k ≠ 3) : Calls Tryz.prog 30 #[.int .i64 k, .string s] W (GetOPost W k l) := by
  have hls : l.length = s.size := by rw [hl, ← ba_size]
  have I0 := GtO.start W k
  have bu := built_kindO k
  have io := infoO ⟨k, [], [], noCom⟩ none 0 0 none 0 0
  have lo := objL_len ⟨k, [], [], noCom⟩ none 0 0 none 0 0
  have oo := objL_one ⟨k, [], [], noCom⟩ none 0 0 none 0 0
  obtain ⟨c0, hc0⟩ : ∃ c0, c0 = objL ⟨k, [], [], noCom⟩ none 0 0 none 0 0 := ⟨_, rfl⟩
  rw [← hc0] at I0 bu io lo oo
  have HC0 := Lib.hid hc0
  have BU := Lib.hid bu
  have IO := Lib.hid io
  have LO := Lib.hid lo
  have OO := Lib.hid oo
  obtain ⟨w1, hw1⟩ : ∃ w1, w1 = W.alloc (.cells zeroO.toArray 30) := ⟨_, rfl⟩
  have hz1 : w1.heap.size = W.heap.size + 1 := by rw [hw1, hsz]
  rw [← hw1] at I0
  have KI := Lib.hid I0
  have HW1 := Lib.hid hw1
  have HZ1 := Lib.hid hz1
  have HL := Lib.hid hl
  have HLS := Lib.hid hls
  have hget := Lib.hid (show getO k l = (noOb, 1) by unfold getO; rw [if_neg hk.1, if_neg hk.2.1, if_neg hk.2.2])
  have f1 : (k == (1 : Int)) = false := by simpa using hk.1
  have f2 : (k == (2 : Int)) = false := by simpa using hk.2.1
  have f3 : (k == (3 : Int)) = false := by simpa using hk.2.2
  clear hk
  clear _hs _hG _hE hl hls bu io lo oo hc0 I0 hw1 hz1
  go_enter Tryz.func30, Tryz.ntmps30
  go_upto_region 1 with fail
  change Code.wp _ _ _ _ (W.alloc (.cells zeroO.toArray 30))
  rw [← HW1.out]
  go_upto_region 2 with (first
    | (refine wpl_buildP rfl 30 _ rfl c0 BU.out ?_)
    | (refine wpl_storeS rfl 30 (.tmp 6) _ rfl w1.heap.size c0 rfl rfl 30 zeroO (Blk.new w1 _ _) IO.out (by rw [LO.out]; rfl) OO.out ?_))
  change Code.wp _ _ _ _ ((w1.alloc (.cells zeroO.toArray 30)).setRow w1.heap.size c0.toArray)
  rw [HZ1.out]
  generalize (w1.alloc (.cells zeroO.toArray 30)).setRow (W.heap.size + 1) c0.toArray = v0 at KI ⊢
  obtain ⟨g1, hg1⟩ : ∃ g1, g1 = W.heap.size + 1 := ⟨_, rfl⟩
  rw [← hg1] at KI
  rw [← hg1]
  obtain ⟨g0, hg0⟩ : ∃ g0, g0 = W.heap.size := ⟨_, rfl⟩
  rw [← hg0] at KI
  rw [← hg0]
  have HG0 := Lib.hid hg0
  clear hg0 hg1 HW1 HZ1 BU
  go_wp2_with (first
    | (refine wpl_build rfl 30 _ rfl zeroO (by kernel_rfl) ?_)
    | (refine wpl_storeS rfl 30 (.tmp 4) _ rfl g0 zeroO rfl rfl 30 zeroO KI.out.res infoZO rfl zeroO_one ?_))
  refine bodyPost_ret (res_rowS2 rfl _ _ g0 30 zeroO _ rfl (KI.out.res.row _) Tryz.underlying30 rfl infoZO) rfl ?_
  exact getO_err hget.out (by decide) rfl (below_setRow' KI.out.low KI.out.p0 _)
set_option maxRecDepth 20000 in
set_option maxHeartbeats 6400000 in
theorem rgetO_2 (W : World) (k : Int) (s : ByteArray) (l : List UInt8) (hl : l = s.data.toList) (hs : s.size ≤ 1048576) (hG : Gl W) (_hE : Ge W) (hk : k = 2) : Calls Tryz.prog 30 #[.int .i64 k, .string s] W (GetOPost W k l) := by
  have hls : l.length = s.size := by rw [hl, ← ba_size]
  have I0 := GtO.start W k
  have bu := built_kindO k
  have io := infoO ⟨k, [], [], noCom⟩ none 0 0 none 0 0
  have lo := objL_len ⟨k, [], [], noCom⟩ none 0 0 none 0 0
  have oo := objL_one ⟨k, [], [], noCom⟩ none 0 0 none 0 0
  obtain ⟨c0, hc0⟩ : ∃ c0, c0 = objL ⟨k, [], [], noCom⟩ none 0 0 none 0 0 := ⟨_, rfl⟩
  rw [← hc0] at I0 bu io lo oo
  have HC0 := Lib.hid hc0
  have BU := Lib.hid bu
  have IO := Lib.hid io
  have LO := Lib.hid lo
  have OO := Lib.hid oo
  obtain ⟨w1, hw1⟩ : ∃ w1, w1 = W.alloc (.cells zeroO.toArray 30) := ⟨_, rfl⟩
  have hz1 : w1.heap.size = W.heap.size + 1 := by rw [hw1, hsz]
  rw [← hw1] at I0
  have KI := Lib.hid I0
  have HW1 := Lib.hid hw1
  have HZ1 := Lib.hid hz1
  have HL := Lib.hid hl
  have HLS := Lib.hid hls
  subst hk
  have HG := Lib.hid hG
  have HS := Lib.hid hs
  clear hs hG _hE hl hls bu io lo oo hc0 I0 hw1 hz1
  go_enter Tryz.func30, Tryz.ntmps30
  go_upto_region 1 with fail
  change Code.wp _ _ _ _ (W.alloc (.cells zeroO.toArray 30))
  rw [← HW1.out]
  go_upto_region 2 with (first
    | (refine wpl_buildP rfl 30 _ rfl c0 BU.out ?_)
    | (refine wpl_storeS rfl 30 (.tmp 6) _ rfl w1.heap.size c0 rfl rfl 30 zeroO (Blk.new w1 _ _) IO.out (by rw [LO.out]; rfl) OO.out ?_))
  change Code.wp _ _ _ _ ((w1.alloc (.cells zeroO.toArray 30)).setRow w1.heap.size c0.toArray)
  rw [HZ1.out]
  generalize (w1.alloc (.cells zeroO.toArray 30)).setRow (W.heap.size + 1) c0.toArray = v0 at KI ⊢
  obtain ⟨g1, hg1⟩ : ∃ g1, g1 = W.heap.size + 1 := ⟨_, rfl⟩
  rw [← hg1] at KI
  rw [← hg1]
  obtain ⟨g0, hg0⟩ : ∃ g0, g0 = W.heap.size := ⟨_, rfl⟩
  rw [← hg0] at KI
  rw [← hg0]
  have HG0 := Lib.hid hg0
  clear hg0 hg1 HW1 HZ1 BU
  have cT := rgetTree_any v0 s l HL.out (by have := HS.out; omega)
  unfold RGetTPost at cT
  have lo := LO.out
  have hg : getO 2 l = match getT l with | some es => (⟨2, [], es, noCom⟩, 0) | none => (noOb, 1) := by unfold getO; rw [if_neg (by omega), if_pos rfl]; cases getT l <;> rfl
  cases hq : getT l with
  | none =>
    rw [hq] at cT hg
    simp only at cT hg
    have HGT := Lib.hid hg
    have CT := Lib.hid cT
    clear cT hg hq lo
    go_wp2_with (first
      | (go_at_call 76; refine CT.out.mono ?_; rintro e v1 ⟨rfl, h1⟩; have K1 := Lib.hid (KI.out.below h1); clear h1; obtain ⟨⟨u2, hc2⟩, hf2⟩ : (∃ v, v1.cell? ⟨g1, 2, none⟩ = some v) ∧ v1.frozen? ⟨g1, 2, none⟩ = false := ⟨⟨_, K1.out.cur.cell 2 _ (List.getElem?_eq_getElem (by rw [LO.out]; omega))⟩, K1.out.cur.frozen 2⟩; have K2 := Lib.hid (K1.out.set 2 (.slice none 0 0)))
      | (refine wpl_build rfl 30 _ rfl zeroO (by kernel_rfl) ?_)
      | (refine wpl_storeS rfl 30 (.tmp 4) _ rfl g0 zeroO rfl rfl 30 zeroO K2.out.res infoZO rfl zeroO_one ?_))
    refine bodyPost_ret (res_rowS2 rfl _ _ g0 30 zeroO _ rfl (K2.out.res.row _) Tryz.underlying30 rfl infoZO) rfl ?_
    exact getO_err HGT.out (by decide) rfl (below_setRow' K2.out.low K2.out.p0 _)
  | some es =>
    rw [hq] at cT hg
    simp only at cT hg
    have HGT := Lib.hid hg
    have CT := Lib.hid cT
    have HV := Lib.hid KI.out.low.size
    clear cT hg hq lo
    go_wp2_with (first
      | (go_at_call 76; refine CT.out.mono ?_; rintro e v1 ⟨A, c, rfl, hr, h1⟩; have K1 := Lib.hid (KI.out.below h1); have RQ := Lib.hid hr; have gq : g1 < v0.heap.size := KI.out.cur.lt; have gp : g0 < v0.heap.size := KI.out.res.lt; have N1 := Lib.hid (show (Value.slice A es.length c).ownBlock ≠ some g1 from fun e => by have := (hr.lt _ e).1; omega); have N0 := Lib.hid (show (Value.slice A es.length c).ownBlock ≠ some g0 from fun e => by have := (hr.lt _ e).1; omega); clear hr h1 gq gp; obtain ⟨⟨u2, hc2⟩, hf2⟩ : (∃ v, v1.cell? ⟨g1, 2, none⟩ = some v) ∧ v1.frozen? ⟨g1, 2, none⟩ = false := ⟨⟨_, K1.out.cur.cell 2 _ (List.getElem?_eq_getElem (by rw [LO.out]; omega))⟩, K1.out.cur.frozen 2⟩; have K2 : Hid (GtO W (v1.setCell ⟨g1, 2, none⟩ (.slice A es.length c)) g0 g1 (objL ⟨2, [], es, noCom⟩ A es.length c none 0 0)) := Lib.hid (by have := K1.out.set 2 (.slice A es.length c); rw [HC0.out] at this; exact this); have RQ2 := Lib.hid ((RQ.out.far N1.out (.slice A es.length c) (p := ⟨g1, 2, none⟩)).mono HV.out))
      | (refine wpl_loadS rfl 30 (.tmp 6) rfl ⟨g1, 0, none⟩ rfl (objL ⟨2, [], es, noCom⟩ A es.length c none 0 0) Tryz.isAgg30 (infoO _ _ _ _ _ _ _) (fun j u hu => by rw [addr_row _ rfl, Nat.zero_add]; exact K2.out.cur.cell j u hu) ?_)
      | (refine wpl_storeS rfl 30 (.tmp 4) _ rfl g0 (objL ⟨2, [], es, noCom⟩ A es.length c none 0 0) rfl rfl 30 zeroO K2.out.res (infoO _ _ _ _ _ _ _) (by rw [objL_len]; rfl) (objL_one _ _ _ _ _ _ _) ?_))
    refine bodyPost_ret (res_rowS2 rfl _ _ g0 30 (objL ⟨2, [], es, noCom⟩ A es.length c none 0 0) _ rfl (K2.out.res.row _) Tryz.underlying30 rfl (infoO _ _ _ _ _ _ _)) rfl ?_
    exact getO_ok HGT.out A c none 0 rfl (RQ2.out.rowFar N0.out _) (RowQ.nil _ _ _ _) (below_setRow' K2.out.low K2.out.p0 _)
set_option maxRecDepth 20000 in
set_option maxHeartbeats 6400000 in
theorem rgetO_3 (W : World) (k : Int) (s : ByteArray) (l : List UInt8) (hl : l = s.data.toList) (hs : s.size ≤ 1048576) (hG : Gl W) (hE : Ge W) (hk : k = 3) : Calls Tryz.prog 30 #[.int .i64 k, .string s] W (GetOPost W k l) := by
  have hls : l.length = s.size := by rw [hl, ← ba_size]
  have I0 := GtO.start W k
  have bu := built_kindO k
  have io := infoO ⟨k, [], [], noCom⟩ none 0 0 none 0 0
  have lo := objL_len ⟨k, [], [], noCom⟩ none 0 0 none 0 0
  have oo := objL_one ⟨k, [], [], noCom⟩ none 0 0 none 0 0
  obtain ⟨c0, hc0⟩ : ∃ c0, c0 = objL ⟨k, [], [], noCom⟩ none 0 0 none 0 0 := ⟨_, rfl⟩
  rw [← hc0] at I0 bu io lo oo
  have HC0 := Lib.hid hc0
  have BU := Lib.hid bu
  have IO := Lib.hid io
  have LO := Lib.hid lo
  have OO := Lib.hid oo
  obtain ⟨w1, hw1⟩ : ∃ w1, w1 = W.alloc (.cells zeroO.toArray 30) := ⟨_, rfl⟩
  have hz1 : w1.heap.size = W.heap.size + 1 := by rw [hw1, hsz]
  rw [← hw1] at I0
  have KI := Lib.hid I0
  have HW1 := Lib.hid hw1
  have HZ1 := Lib.hid hz1
  have HL := Lib.hid hl
  have HLS := Lib.hid hls
  subst hk
  have HG := Lib.hid hG
  have HE := Lib.hid hE
  have HS := Lib.hid hs
  clear hs hG hE hl hls bu io lo oo hc0 I0 hw1 hz1
  go_enter Tryz.func30, Tryz.ntmps30
  go_upto_region 1 with fail
  change Code.wp _ _ _ _ (W.alloc (.cells zeroO.toArray 30))
  rw [← HW1.out]
  go_upto_region 2 with (first
    | (refine wpl_buildP rfl 30 _ rfl c0 BU.out ?_)
    | (refine wpl_storeS rfl 30 (.tmp 6) _ rfl w1.heap.size c0 rfl rfl 30 zeroO (Blk.new w1 _ _) IO.out (by rw [LO.out]; rfl) OO.out ?_))
  change Code.wp _ _ _ _ ((w1.alloc (.cells zeroO.toArray 30)).setRow w1.heap.size c0.toArray)
  rw [HZ1.out]
  generalize (w1.alloc (.cells zeroO.toArray 30)).setRow (W.heap.size + 1) c0.toArray = v0 at KI ⊢
  obtain ⟨g1, hg1⟩ : ∃ g1, g1 = W.heap.size + 1 := ⟨_, rfl⟩
  rw [← hg1] at KI
  rw [← hg1]
  obtain ⟨g0, hg0⟩ : ∃ g0, g0 = W.heap.size := ⟨_, rfl⟩
  rw [← hg0] at KI
  rw [← hg0]
  have HG0 := Lib.hid hg0
  clear hg0 hg1 HW1 HZ1 BU
  have cT := rgetCommit_any v0 s l HL.out HS.out
  unfold RGetCPost at cT
  have hg : getO 3 l = match getC l with | some c => (⟨3, [], [], c⟩, 0) | none => (noOb, 1) := by unfold getO; rw [if_neg (by omega), if_neg (by omega), if_pos rfl]; cases getC l <;> rfl
  have th : ∀ w, GtO W w g0 g1 c0 → w.there g1 3 35 := fun w h => h.cur.there 3 35 (by rw [LO.out]; omega)
  have TH := Lib.hid th
  clear th
  cases hq : getC l with
  | none =>
    rw [hq] at cT hg
    simp only at cT hg
    have HGT := Lib.hid hg
    have zl : zeroC.length = 35 := comL_len _ _ _ _
    have zi := infoZC
    have zo : ∀ v ∈ zeroC, v.oneCell' = true := comL_one _ _ _ _
    obtain ⟨zc, hzc⟩ : ∃ zc, zc = zeroC := ⟨_, rfl⟩
    rw [← hzc] at cT zl zi zo
    have CT := Lib.hid cT
    have ZL := Lib.hid zl
    have ZI := Lib.hid zi
    have ZO := Lib.hid zo
    clear cT hg hq zl zi zo hzc
    go_wp2_with (first
      | (go_at_call 77; refine CT.out.mono ?_; rintro e v1 ⟨rfl, h1⟩; have K1 := Lib.hid (KI.out.below h1); clear h1; have K2 := Lib.hid (K1.out.mid zc 3 (by rw [LO.out, ZL.out]; exact Nat.le_refl _)))
      | (refine wpl_store_mid rfl 28 (.tmp 34) _ rfl g1 3 zc rfl rfl (by rw [ZL.out]; exact TH.out _ K1.out) ZI.out ZO.out ?_)
      | (refine wpl_build rfl 30 _ rfl zeroO (by kernel_rfl) ?_)
      | (refine wpl_storeS rfl 30 (.tmp 4) _ rfl g0 zeroO rfl rfl 30 zeroO K2.out.res infoZO rfl zeroO_one ?_))
    refine bodyPost_ret (res_rowS2 rfl _ _ g0 30 zeroO _ rfl (K2.out.res.row _) Tryz.underlying30 rfl infoZO) rfl ?_
    exact getO_err HGT.out (by decide) rfl (below_setRow' K2.out.low K2.out.p0 _)
  | some c =>
    rw [hq] at cT hg
    simp only at cT hg
    have HGT := Lib.hid hg
    have CT := Lib.hid cT
    have HV := Lib.hid KI.out.low.size
    clear cT hg hq
    go_wp2_with (first
      | (go_at_call 77; refine CT.out.mono ?_; rintro e v1 ⟨A, d, rfl, hr, h1⟩; have K1 := Lib.hid (KI.out.below h1); have RQ := Lib.hid hr; have gq : g1 < v0.heap.size := KI.out.cur.lt; have gp : g0 < v0.heap.size := KI.out.res.lt; have N1 := Lib.hid (show (Value.slice A c.ps.length d).ownBlock ≠ some g1 from fun e => by have := (hr.lt _ e).1; omega); have N0 := Lib.hid (show (Value.slice A c.ps.length d).ownBlock ≠ some g0 from fun e => by have := (hr.lt _ e).1; omega); clear hr h1 gq gp; have K2 : Hid (GtO W (v1.setCells g1 3 (comL c A c.ps.length d)) g0 g1 (objL ⟨3, [], [], c⟩ none 0 0 A c.ps.length d)) := Lib.hid (by have := K1.out.mid (comL c A c.ps.length d) 3 (by rw [LO.out, comL_len]; exact Nat.le_refl _); rw [HC0.out, objL_com] at this; exact this); have RQ2 := Lib.hid ((RQ.out.of_block fun k hk => heap_setCells_other g1 k (fun e => N1.out (by rw [hk, e])) (comL c A c.ps.length d) 3 v1).mono HV.out))
      | (refine wpl_store_mid rfl 28 (.tmp 34) _ rfl g1 3 (comL c A c.ps.length d) rfl rfl (by rw [comL_len]; exact TH.out _ K1.out) (infoC _ _ _ _) (comL_one _ _ _ _) ?_)
      | (refine wpl_loadS rfl 30 (.tmp 6) rfl ⟨g1, 0, none⟩ rfl (objL ⟨3, [], [], c⟩ none 0 0 A c.ps.length d) Tryz.isAgg30 (infoO _ _ _ _ _ _ _) (fun j u hu => by rw [addr_row _ rfl, Nat.zero_add]; exact K2.out.cur.cell j u hu) ?_)
      | (refine wpl_storeS rfl 30 (.tmp 4) _ rfl g0 (objL ⟨3, [], [], c⟩ none 0 0 A c.ps.length d) rfl rfl 30 zeroO K2.out.res (infoO _ _ _ _ _ _ _) (by rw [objL_len]; rfl) (objL_one _ _ _ _ _ _ _) ?_))
    refine bodyPost_ret (res_rowS2 rfl _ _ g0 30 (objL ⟨3, [], [], c⟩ none 0 0 A c.ps.length d) _ rfl (K2.out.res.row _) Tryz.underlying30 rfl (infoO _ _ _ _ _ _ _)) rfl ?_
    exact getO_ok HGT.out none 0 A d rfl (RowQ.nil _ _ _ _) (RQ2.out.rowFar N0.out _) (below_setRow' K2.out.low K2.out.p0 _)
theorem rgetO_any (W : World) (k : Int) (s : ByteArray) (l : List UInt8) (hl : l = s.data.toList) (hs : s.size ≤ 1048576) (hG : Gl W) (hE : Ge W) : Calls Tryz.prog 30 #[.int .i64 k, .string s] W (GetOPost W k l) := by
  by_cases e1 : k = 1
  · exact rgetO_1 W k s l hl hs hG hE e1
  · by_cases e2 : k = 2
    · exact rgetO_2 W k s l hl hs hG hE e2
    · by_cases e3 : k = 3
      · exact rgetO_3 W k s l hl hs hG hE e3
      · exact rgetO_0 W k s l hl hs hG hE ⟨e1, e2, e3⟩
end Go.Proofs.YtpbnigpdpkfpaaaGreatDoor
namespace Go.Proofs.YtpbnigpdpkfpaaaGreatDoor
open Go.RowKit
set_option maxRecDepth 20000 in
set_option maxHeartbeats 16000000 in
theorem rmayO_any (W : World) (o : Obt) (A : Option Addr) (n k : Nat) (B : Option Addr) (m d : Nat) (h : ObAt W o A n k B m d) (hn : n ≤ 1099511627776) (hm : m ≤ 1099511627776) :
    Calls Tryz.prog 18 #[.agg (objL o A n k B m d).toArray] W fun e W' => e = .returned (.bool (mayO o)) ∧ Below W.heap.size W W' := by
  obtain ⟨bb, hbb⟩ : ∃ bb : ByteArray, bb = ⟨o.blob.toArray⟩ := ⟨_, rfl⟩
  obtain ⟨hp1, hp2⟩ := empty_blob o.blob bb hbb
  have hp3 := empty_ents o.ents n h.len
  have hbz : o.blob.length = bb.size := by rw [hbb, ba_size]
  obtain ⟨r, hr⟩ : ∃ r, r = mayO o := ⟨_, rfl⟩
  rw [← hr]
  unfold mayO at hr
  rw [hbz] at hr
  have l0 := (Below.refl W.heap.size W).alloc (Nat.le_refl _) (.cells (objL o A n k B m d).toArray 30)
  have k0 := ObBlk.of (Blk.new W 30 (objL o A n k B m d))
  rw [← hbb] at k0
  obtain ⟨w0, hw0⟩ : ∃ w0, w0 = W.alloc (.cells (objL o A n k B m d).toArray 30) := ⟨_, rfl⟩
  rw [← hw0] at l0 k0
  have cQ : ∀ w, Below W.heap.size W w → Calls Tryz.prog 67 #[.agg (comL o.com B m d).toArray, .agg zeroC.toArray] w fun e w' => e = .returned (.bool (eqC o.com noCom)) ∧ Below w.heap.size w w' := fun w hw => reqC_any w o.com noCom B m d none 0 0 (h.com.below hw) (noComAt w) hm (by omega)
  have cT := fun w (hw : Below W.heap.size W w) => refMayTree_any w A n k o.ents (entE.src_below h.row hw) hn h.names
  have cM := fun w (hw : Below W.heap.size W w) => rmayC_any w o.com B m d (h.com.below hw) hm
  have ic := infoC o.com B m d
  generalize eqC o.com noCom = pc at cQ hr
  generalize decide (o.blob = []) = pb at hp1 hp2 hr
  generalize decide (o.ents = []) = pt at hp3 hr
  generalize mayT o.ents = pm at cT hr
  generalize mayC o.com = pn at cM hr
  obtain ⟨g, hg⟩ : ∃ g, g = W.heap.size := ⟨_, rfl⟩
  rw [← hg] at k0
  have L0 := Lib.hid l0
  have K0 := Lib.hid k0
  have HW : Hid (∀ w, Below w0.heap.size w0 w → Below W.heap.size W w) := Lib.hid fun w hw => l0.trans (hw.mono l0.size)
  have CQ := Lib.hid cQ
  have CT := Lib.hid cT
  have CM := Lib.hid cM
  have IC := Lib.hid ic
  obtain ⟨cs, hcs⟩ : ∃ cs, cs = objL o A n k B m d := ⟨_, rfl⟩
  obtain ⟨cc, hcc⟩ : ∃ cc, cc = comL o.com B m d := ⟨_, rfl⟩
  rw [← hcs] at hw0 ⊢
  rw [← hcc] at CQ CM IC
  have KC : Hid (∀ w, Below w0.heap.size w0 w → ∀ j v, cc[j]? = some v → w.cell? ((⟨g, 3, none⟩ : Addr).add j) = some v) := Lib.hid fun w hw j v hv => (K0.out.below hw).com j v (by rw [← hcc]; exact hv)
  have KK : Hid (∀ w, Below w0.heap.size w0 w → w.cell? ⟨g, 0, none⟩ = some (.int .i64 o.kd) ∧ w.cell? ⟨g, 1, none⟩ = some (.string bb) ∧ w.cell? ⟨g, 2, none⟩ = some (.slice A n k)) := Lib.hid fun w hw => ⟨(K0.out.below hw).kd, (K0.out.below hw).blob, (K0.out.below hw).ents⟩
  obtain ⟨kd, hkd⟩ : ∃ kd, kd = o.kd := ⟨_, rfl⟩
  rw [← hkd] at KK hr
  have HR := Lib.hid hr
  clear h hn hm hbb hbz hr l0 k0 cQ cT cM ic hcs hcc K0 hkd
  go_enter Tryz.func18, Tryz.ntmps18
  go_upto_region 1 with fail
  change Code.wp _ _ _ _ (W.alloc (.cells cs.toArray 30))
  rw [← hw0, ← hg]
  clear hw0 hg
  go_upto_region 2 with (first
    | (refine wpl_loadS rfl 28 (.tmp 4) rfl ⟨g, 3, none⟩ rfl cc Tryz.isAgg28 IC.out (KC.out _ (Below.refl _ _)) ?_)
    | (refine wpl_buildP rfl 28 _ rfl zeroC (by kernel_rfl) ?_)
    | (go_at_call 67; refine (CQ.out _ (HW.out _ (Below.refl _ _))).mono ?_; rintro e w1 ⟨rfl, h1⟩; have L1 : Hid (Below w0.heap.size w0 w1) := Lib.hid h1; clear h1))
  have LW := Lib.hid (HW.out _ L1.out)
  obtain ⟨y0, y1, y2⟩ := KK.out _ L1.out
  clear CQ KK
  by_cases e1 : kd = 1
  · subst e1
    have h1 := HR.out
    rw [if_pos rfl] at h1
    have H1 := Lib.hid h1
    clear HR h1 CT CM KC IC
    as_aux_lemma =>
      by_cases hz : bb.size ≤ 1000
      · have z1 : (bb.size : Int) ≤ 1000 := by omega
        have H2 := Lib.hid (show r = (pt && pc) from by rw [H1.out, decide_eq_true hz, Bool.and_true])
        clear H1 hz
        cases pt <;> cases pc
        all_goals
          have H3 := Lib.hid (show r = _ from H2.out)
          go_wp2
          go_ret
          exact ⟨by rw [H3.out]; rfl, LW.out⟩
      · have z1 : ¬ (bb.size : Int) ≤ 1000 := by omega
        have z2 : decide ((bb.size : Int) ≤ 1000) = false := decide_eq_false z1
        have H2 := Lib.hid (show r = false from by rw [H1.out, decide_eq_false hz, Bool.and_false])
        clear H1 hz
        go_wp2
        go_ret
        exact ⟨by rw [H2.out]; rfl, LW.out⟩
  · by_cases e2 : kd = 2
    · subst e2
      have h1 := HR.out
      rw [if_neg (by omega), if_pos rfl] at h1
      have H1 := Lib.hid h1
      clear HR h1 e1 CM KC IC
      as_aux_lemma =>
        cases pb
        · have H2 := Lib.hid (show r = false from H1.out)
          go_wp2
          go_ret
          exact ⟨by rw [H2.out]; rfl, LW.out⟩
        · have H2 := Lib.hid (show r = (pc && pm) from H1.out)
          cases pm <;> cases pc
          all_goals
            have H3 := Lib.hid (show r = _ from H2.out)
            go_wp2_with (go_at_call 68; refine (CT.out _ LW.out).mono ?_; rintro e w2 ⟨rfl, h2⟩; have B2 := Lib.hid h2; clear h2)
            go_ret
            exact ⟨by rw [H3.out]; rfl, LW.out.trans (B2.out.mono LW.out.size)⟩
    · by_cases e3 : kd = 3
      · subst e3
        have h1 := HR.out
        rw [if_neg (by omega), if_neg (by omega), if_pos rfl] at h1
        have H1 := Lib.hid h1
        clear HR h1 e1 e2 CT
        cases pb
        · as_aux_lemma =>
            have H2 := Lib.hid (show r = false from H1.out)
            go_wp2
            go_ret
            exact ⟨by rw [H2.out]; rfl, LW.out⟩
        · cases pt
          · as_aux_lemma =>
              have H2 := Lib.hid (show r = false from H1.out)
              go_wp2
              go_ret
              exact ⟨by rw [H2.out]; rfl, LW.out⟩
          · as_aux_lemma =>
              have H2 := Lib.hid (show r = pn from H1.out)
              go_wp2_with (first
                | (refine wpl_guard (by rfl) ?_; refine wpl_loadS rfl 28 (.tmp 50) rfl ⟨g, 3, none⟩ rfl cc Tryz.isAgg28 IC.out (KC.out _ L1.out) ?_)
                | (go_at_call 69; refine (CM.out _ LW.out).mono ?_; rintro e w2 ⟨rfl, h2⟩; have B2 := Lib.hid h2; clear h2))
              go_ret
              exact ⟨by rw [H2.out]; rfl, LW.out.trans (B2.out.mono LW.out.size)⟩
      · have f1 : (kd == (1 : Int)) = false := by simpa using e1
        have f2 : (kd == (2 : Int)) = false := by simpa using e2
        have f3 : (kd == (3 : Int)) = false := by simpa using e3
        have H2 : Hid (r = false) := Lib.hid (by rw [HR.out, if_neg e1, if_neg e2, if_neg e3])
        clear e1 e2 e3 CT CM KC IC HR
        as_aux_lemma =>
          go_wp2
          go_ret
          exact ⟨by rw [H2.out]; rfl, LW.out⟩
end Go.Proofs.YtpbnigpdpkfpaaaGreatDoor
namespace Go.Proofs.YtpbnigpdpkfpaaaGreatDoor
open Go.RowKit
set_option maxRecDepth 20000 in
set_option maxHeartbeats 16000000 in
theorem objMay_any (W : World) (o : Obt) (A : Option Addr) (n k : Nat) (B : Option Addr) (m d : Nat) (h : ObAt W o A n k B m d) (hn : n ≤ 1099511627776) (hm : m ≤ 1099511627776) :
    Calls Tryz.prog 21 #[.agg (objL o A n k B m d).toArray] W fun e W' => e = .returned (.bool (mayO o)) ∧ Below W.heap.size W W' := by
  obtain ⟨bb, hbb⟩ : ∃ bb : ByteArray, bb = ⟨o.blob.toArray⟩ := ⟨_, rfl⟩
  obtain ⟨hp1, hp2⟩ := empty_blob o.blob bb hbb
  have hp3 := empty_ents o.ents n h.len
  have hbz : o.blob.length = bb.size := by rw [hbb, ba_size]
  obtain ⟨r, hr⟩ : ∃ r, r = mayO o := ⟨_, rfl⟩
  rw [← hr]
  unfold mayO at hr
  rw [hbz] at hr
  have l0 := (Below.refl W.heap.size W).alloc (Nat.le_refl _) (.cells (objL o A n k B m d).toArray 30)
  have k0 := ObBlk.of (Blk.new W 30 (objL o A n k B m d))
  rw [← hbb] at k0
  obtain ⟨w0, hw0⟩ : ∃ w0, w0 = W.alloc (.cells (objL o A n k B m d).toArray 30) := ⟨_, rfl⟩
  rw [← hw0] at l0 k0
  have cQ : ∀ w, Below W.heap.size W w → Calls Tryz.prog 65 #[.agg (comL o.com B m d).toArray, .agg zeroC.toArray] w fun e w' => e = .returned (.bool (eqC o.com noCom)) ∧ Below w.heap.size w w' := fun w hw => commitEq_any w o.com noCom B m d none 0 0 (h.com.below hw) (noComAt w) hm (by omega)
  have cT := fun w (hw : Below W.heap.size W w) => treeMay_any w A n k o.ents (entE.src_below h.row hw) hn h.names
  have cM := fun w (hw : Below W.heap.size W w) => commitMay_any w o.com B m d (h.com.below hw) hm
  have ic := infoC o.com B m d
  generalize eqC o.com noCom = pc at cQ hr
  generalize decide (o.blob = []) = pb at hp1 hp2 hr
  generalize decide (o.ents = []) = pt at hp3 hr
  generalize mayT o.ents = pm at cT hr
  generalize mayC o.com = pn at cM hr
  obtain ⟨g, hg⟩ : ∃ g, g = W.heap.size := ⟨_, rfl⟩
  rw [← hg] at k0
  have L0 := Lib.hid l0
  have K0 := Lib.hid k0
  have HW : Hid (∀ w, Below w0.heap.size w0 w → Below W.heap.size W w) := Lib.hid fun w hw => l0.trans (hw.mono l0.size)
  have CQ : Hid (∀ s : Ext w0, Calls Tryz.prog 65 #[.agg (comL o.com B m d).toArray, .agg zeroC.toArray] s.at_ fun e w' => e = .returned (.bool pc) ∧ Below s.at_.heap.size s.at_ w') := Lib.hid fun s => cQ _ (HW.out _ s.below)
  have CT := Lib.hid cT
  have CM := Lib.hid cM
  have IC := Lib.hid ic
  have x0 : ∀ s : Ext w0, s.at_.cell? ⟨g, 1, none⟩ = some (.string bb) := fun s => (k0.below s.below).blob
  have x1 : ∀ s : Ext w0, s.at_.cell? ⟨g, 2, none⟩ = some (.slice A n k) := fun s => (k0.below s.below).ents
  have XC : Hid (∀ w', (∃ s : Ext w0, w' = s.at_) → ∀ j v, (comL o.com B m d)[j]? = some v → w'.cell? ((⟨g, 3, none⟩ : Addr).add j) = some v) := Lib.hid fun w' ⟨s, hw⟩ j v hv => by rw [hw]; exact (k0.below s.below).com j v hv
  have zV := zCv_eq
  obtain ⟨zC, hzC⟩ : ∃ zC, zC = zeroC := ⟨_, rfl⟩
  rw [← hzC] at zV CQ
  clear hzC
  obtain ⟨cs, hcs⟩ : ∃ cs, cs = objL o A n k B m d := ⟨_, rfl⟩
  obtain ⟨cc, hcc⟩ : ∃ cc, cc = comL o.com B m d := ⟨_, rfl⟩
  rw [← hcs] at hw0 ⊢
  rw [← hcc] at CQ CM IC XC
  have KC : Hid (∀ w, Below w0.heap.size w0 w → ∀ j v, cc[j]? = some v → w.cell? ((⟨g, 3, none⟩ : Addr).add j) = some v) := Lib.hid fun w hw j v hv => (K0.out.below hw).com j v (by rw [← hcc]; exact hv)
  have KK : Hid (∀ w, Below w0.heap.size w0 w → w.cell? ⟨g, 0, none⟩ = some (.int .i64 o.kd) ∧ w.cell? ⟨g, 1, none⟩ = some (.string bb) ∧ w.cell? ⟨g, 2, none⟩ = some (.slice A n k)) := Lib.hid fun w hw => ⟨(K0.out.below hw).kd, (K0.out.below hw).blob, (K0.out.below hw).ents⟩
  obtain ⟨kd, hkd⟩ : ∃ kd, kd = o.kd := ⟨_, rfl⟩
  rw [← hkd] at KK hr
  have HR := Lib.hid hr
  clear h hn hm hbb hbz hr l0 k0 cQ cT cM ic hcs hcc K0 hkd
  go_enter Tryz.func21, Tryz.ntmps21
  go_upto_region 1 with fail
  change Code.wp _ _ _ _ (W.alloc (.cells cs.toArray 30))
  rw [← hw0, ← hg]
  clear hw0 hg
  have hemp := ext_nonempty w0
  refine wp_region_ext (by kernel_rfl) (by kernel_rfl) ?_
  repeat (first
    | quiet_step (fail)
    | go_big_quiet_step (fail)
    | (refine wpQuiet_loadS (by rfl) 28 (.tmp 13) rfl ⟨g, 3, none⟩ rfl cc Tryz.isAgg28 IC.out XC.out ?_)
    | quiet_step ((go_at_call 65; exact Ext.call (CQ.out _))))
  refine wpQuiet_nil ?_
  rintro _ ⟨s9, rfl⟩
  have L1 := Lib.hid s9.below
  generalize s9.at_ = w1 at L1 ⊢
  have LW := Lib.hid (HW.out _ L1.out)
  obtain ⟨y0, y1, y2⟩ := KK.out _ L1.out
  clear x0 x1 hp1 hp2 hp3 CQ XC hemp KK
  by_cases e1 : kd = 1
  · subst e1
    have h1 := HR.out
    rw [if_pos rfl] at h1
    have H1 := Lib.hid h1
    clear HR h1 CT CM KC IC
    as_aux_lemma =>
      cases pt
      · have H2 := Lib.hid (show r = false from H1.out)
        go_wp2
        go_ret
        exact ⟨by rw [H2.out]; rfl, LW.out⟩
      · cases pc
        · have H2 := Lib.hid (show r = false from H1.out)
          go_wp2
          go_ret
          exact ⟨by rw [H2.out]; rfl, LW.out⟩
        · have H2 := Lib.hid (show r = decide (bb.size ≤ 1000) from H1.out)
          go_wp2
          go_ret
          refine ⟨?_, LW.out⟩
          rw [H2.out]
          show Ending.returned (Value.bool _) = Ending.returned (Value.bool _)
          refine congrArg (fun b => Ending.returned (Value.bool b)) ?_
          refine Bool.eq_iff_iff.2 ?_
          simp only [decide_eq_true_eq]
          omega
  · by_cases e2 : kd = 2
    · subst e2
      have h1 := HR.out
      rw [if_neg (by omega), if_pos rfl] at h1
      have H1 := Lib.hid h1
      clear HR h1 e1 CM KC IC
      as_aux_lemma =>
        cases pb
        · have H2 := Lib.hid (show r = false from H1.out)
          go_wp2
          go_ret
          exact ⟨by rw [H2.out]; rfl, LW.out⟩
        · cases pc
          · have H2 := Lib.hid (show r = false from H1.out)
            go_wp2
            go_ret
            exact ⟨by rw [H2.out]; rfl, LW.out⟩
          · have H2 := Lib.hid (show r = pm from H1.out)
            go_wp2_with (go_at_call 71; refine (CT.out _ LW.out).mono ?_; rintro e w2 ⟨rfl, h2⟩; have B2 := Lib.hid h2; clear h2)
            go_ret
            exact ⟨by rw [H2.out]; rfl, LW.out.trans (B2.out.mono LW.out.size)⟩
    · by_cases e3 : kd = 3
      · subst e3
        have h1 := HR.out
        rw [if_neg (by omega), if_neg (by omega), if_pos rfl] at h1
        have H1 := Lib.hid h1
        clear HR h1 e1 e2 CT
        cases pb
        · as_aux_lemma =>
            have H2 := Lib.hid (show r = false from H1.out)
            go_wp2
            go_ret
            exact ⟨by rw [H2.out]; rfl, LW.out⟩
        · cases pt
          · as_aux_lemma =>
              have H2 := Lib.hid (show r = false from H1.out)
              go_wp2
              go_ret
              exact ⟨by rw [H2.out]; rfl, LW.out⟩
          · as_aux_lemma =>
              have H2 := Lib.hid (show r = pn from H1.out)
              go_wp2_with (first
                | (refine wpl_guard (by rfl) ?_; refine wpl_loadS rfl 28 (.tmp 49) rfl ⟨g, 3, none⟩ rfl cc Tryz.isAgg28 IC.out (KC.out _ L1.out) ?_)
                | (go_at_call 72; refine (CM.out _ LW.out).mono ?_; rintro e w2 ⟨rfl, h2⟩; have B2 := Lib.hid h2; clear h2))
              go_ret
              exact ⟨by rw [H2.out]; rfl, LW.out.trans (B2.out.mono LW.out.size)⟩
      · have f1 : (kd == (1 : Int)) = false := by simpa using e1
        have f2 : (kd == (2 : Int)) = false := by simpa using e2
        have f3 : (kd == (3 : Int)) = false := by simpa using e3
        have H2 : Hid (r = false) := Lib.hid (by rw [HR.out, if_neg e1, if_neg e2, if_neg e3])
        clear e1 e2 e3 CT CM KC IC HR
        as_aux_lemma =>
          go_wp2
          go_ret
          exact ⟨by rw [H2.out]; rfl, LW.out⟩
end Go.Proofs.YtpbnigpdpkfpaaaGreatDoor
namespace Go.Proofs.YtpbnigpdpkfpaaaGreatDoor
open Go.RowKit
theorem commitPut_fit (c : Com) (h : mayC c = true) : putCV c = .tuple #[.string ⟨(commitB c).toArray⟩, .bool true] := by unfold putCV; rw [h]; rfl
set_option maxRecDepth 20000 in
set_option maxHeartbeats 6400000 in
theorem objPut_any (W : World) (o : Obt) (A : Option Addr) (n k : Nat) (B : Option Addr) (m d : Nat) (h : ObAt W o A n k B m d) (hn : n ≤ 1099511627776) (hm : m ≤ 1099511627776) (hG : Gl W) :
    Calls Tryz.prog 19 #[.agg (objL o A n k B m d).toArray] W fun e W' => e = .returned (putOV o) ∧ Below W.heap.size W W' := by
  obtain ⟨bb, hbb⟩ : ∃ bb : ByteArray, bb = ⟨o.blob.toArray⟩ := ⟨_, rfl⟩
  have l0 := (Below.refl W.heap.size W).alloc (Nat.le_refl _) (.cells (objL o A n k B m d).toArray 30)
  have k0 := ObBlk.of (Blk.new W 30 (objL o A n k B m d))
  rw [← hbb] at k0
  obtain ⟨w0, hw0⟩ : ∃ w0, w0 = W.alloc (.cells (objL o A n k B m d).toArray 30) := ⟨_, rfl⟩
  rw [← hw0] at l0 k0
  have HW : Hid (∀ w, Below w0.heap.size w0 w → Below W.heap.size W w) := Lib.hid fun w hw => l0.trans (hw.mono l0.size)
  have cM := fun w (hw : Below W.heap.size W w) => objMay_any w o A n k B m d (h.below hw) hn hm
  have cT := fun w (hw : Below W.heap.size W w) => treePut_any w A n k o.ents (entE.src_below h.row hw) hn h.names
  have cC := fun w (hw : Below W.heap.size W w) => commitPut_any w o.com B m d (h.com.below hw) hm (hG.below hw)
  have ic := infoC o.com B m d
  have io := infoO o A n k B m d
  have L0 := Lib.hid l0
  have K0 := Lib.hid k0
  obtain ⟨g, hg⟩ : ∃ g, g = W.heap.size := ⟨_, rfl⟩
  rw [← hg] at K0
  obtain ⟨cs, hcs⟩ : ∃ cs, cs = objL o A n k B m d := ⟨_, rfl⟩
  obtain ⟨cc, hcc⟩ : ∃ cc, cc = comL o.com B m d := ⟨_, rfl⟩
  rw [← hcs] at hw0 cM io ⊢
  rw [← hcc] at ic cC
  have KC : Hid (∀ w, Below w0.heap.size w0 w → ∀ j v, cc[j]? = some v → w.cell? ((⟨g, 3, none⟩ : Addr).add j) = some v) := Lib.hid fun w hw j v hv => (K0.out.below hw).com j v (by rw [← hcc]; exact hv)
  have KO : Hid (∀ j v, cs[j]? = some v → w0.cell? ((⟨g, 0, none⟩ : Addr).add j) = some v) := Lib.hid fun j v hv => by rw [addr_row _ rfl, Nat.zero_add]; rw [hcs] at hv; exact K0.out.blk.cell j v hv
  have KK : Hid (∀ w, Below w0.heap.size w0 w → w.cell? ⟨g, 0, none⟩ = some (.int .i64 o.kd) ∧ w.cell? ⟨g, 1, none⟩ = some (.string bb) ∧ w.cell? ⟨g, 2, none⟩ = some (.slice A n k)) := Lib.hid fun w hw => ⟨(K0.out.below hw).kd, (K0.out.below hw).blob, (K0.out.below hw).ents⟩
  have IC := Lib.hid ic
  have IO := Lib.hid io
  obtain ⟨kd, hkd⟩ : ∃ kd, kd = o.kd := ⟨_, rfl⟩
  rw [← hkd] at KK
  have LW0 := Lib.hid (HW.out _ (Below.refl _ _))
  cases hq : mayO o
  · have HV : Hid (putOV o = .tuple #[.string ⟨#[]⟩, .bool false]) := Lib.hid (by unfold putOV; rw [hq]; rfl)
    rw [hq] at cM
    have CM := Lib.hid cM
    clear h hn hm hG hbb l0 k0 cM cT cC ic io hcs hcc hkd hq KK KC
    as_aux_lemma =>
      go_enter Tryz.func19, Tryz.ntmps19
      go_upto_region 1 with fail
      change Code.wp _ _ _ _ (W.alloc (.cells cs.toArray 30))
      rw [← hw0, ← hg]
      clear hw0 hg
      go_wp2_with (first
        | (refine wpl_loadS rfl 30 (.tmp 1) rfl ⟨g, 0, none⟩ rfl cs Tryz.isAgg30 IO.out KO.out ?_)
        | (go_at_call 21; refine (CM.out _ LW0.out).mono ?_; rintro e w1 ⟨rfl, h1⟩; have B1 := Lib.hid h1; clear h1))
      go_ret2
      exact ⟨by rw [HV.out]; rfl, LW0.out.trans (B1.out.mono LW0.out.size)⟩
  · have HV : Hid (putOV o = .tuple #[.string ⟨(putO o).toArray⟩, .bool true]) := Lib.hid (by unfold putOV; rw [hq]; rfl)
    have hmay := hq
    rw [hq] at cM
    unfold mayO at hmay
    rw [← hkd] at hmay
    have CM := Lib.hid cM
    have hpo : putO o = if kd = 2 then treeB o.ents else if kd = 3 then commitB o.com else o.blob := by rw [hkd]; rfl
    by_cases e2 : kd = 2
    · subst e2
      have ht : mayT o.ents = true := by
        rw [if_neg (by omega), if_pos rfl] at hmay
        simp only [Bool.and_eq_true] at hmay
        exact hmay.2
      rw [treePut_fit _ ht] at cT
      rw [if_pos rfl] at hpo
      rw [hpo] at HV
      have CT := Lib.hid cT
      clear h hn hm hG hbb l0 k0 cM cT cC ic io hcs hcc hkd hq KC hmay ht hpo
      as_aux_lemma =>
        go_enter Tryz.func19, Tryz.ntmps19
        go_upto_region 1 with fail
        change Code.wp _ _ _ _ (W.alloc (.cells cs.toArray 30))
        rw [← hw0, ← hg]
        clear hw0 hg
        go_upto_region 3 with (first
          | (refine wpl_loadS rfl 30 (.tmp 1) rfl ⟨g, 0, none⟩ rfl cs Tryz.isAgg30 IO.out KO.out ?_)
          | (go_at_call 21; refine (CM.out _ LW0.out).mono ?_; rintro e w1 ⟨rfl, h1⟩; have B1 : Hid (Below w0.heap.size w0 w1) := Lib.hid h1; clear h1))
        obtain ⟨y0, y1, y2⟩ := KK.out _ B1.out
        have LW := Lib.hid (HW.out _ B1.out)
        clear KK
        go_wp2_with (go_at_call 58; refine (CT.out _ LW.out).mono ?_; rintro e w2 ⟨rfl, h2⟩; have B2 := Lib.hid h2; clear h2)
        go_ret2
        exact ⟨by rw [HV.out]; rfl, LW.out.trans (B2.out.mono LW.out.size)⟩
    · have f2 : (kd == (2 : Int)) = false := by simpa using e2
      by_cases e3 : kd = 3
      · subst e3
        have ht : mayC o.com = true := by
          rw [if_neg (by omega), if_neg (by omega), if_pos rfl] at hmay
          simp only [Bool.and_eq_true] at hmay
          exact hmay.2
        rw [commitPut_fit _ ht] at cC
        rw [if_neg (by omega), if_pos rfl] at hpo
        rw [hpo] at HV
        have CC := Lib.hid cC
        clear h hn hm hG hbb l0 k0 cM cT cC ic io hcs hcc hkd hq hmay ht hpo e2
        as_aux_lemma =>
          go_enter Tryz.func19, Tryz.ntmps19
          go_upto_region 1 with fail
          change Code.wp _ _ _ _ (W.alloc (.cells cs.toArray 30))
          rw [← hw0, ← hg]
          clear hw0 hg
          go_upto_region 3 with (first
            | (refine wpl_loadS rfl 30 (.tmp 1) rfl ⟨g, 0, none⟩ rfl cs Tryz.isAgg30 IO.out KO.out ?_)
            | (go_at_call 21; refine (CM.out _ LW0.out).mono ?_; rintro e w1 ⟨rfl, h1⟩; have B1 : Hid (Below w0.heap.size w0 w1) := Lib.hid h1; clear h1))
          obtain ⟨y0, y1, y2⟩ := KK.out _ B1.out
          have LW := Lib.hid (HW.out _ B1.out)
          have KC1 := Lib.hid (KC.out _ B1.out)
          clear KK
          go_wp2_with (first
            | (refine wpl_loadS rfl 28 (.tmp 18) rfl ⟨g, 3, none⟩ rfl cc Tryz.isAgg28 IC.out KC1.out ?_)
            | (go_at_call 60; refine (CC.out _ LW.out).mono ?_; rintro e w2 ⟨rfl, h2⟩; have B2 := Lib.hid h2; clear h2))
          go_ret2
          exact ⟨by rw [HV.out]; rfl, LW.out.trans (B2.out.mono LW.out.size)⟩
      · have f3 : (kd == (3 : Int)) = false := by simpa using e3
        rw [if_neg e2, if_neg e3] at hpo
        rw [hpo, ← hbb] at HV
        clear h hn hm hG hbb l0 k0 cM cT cC ic io hcs hcc hkd hq KC hmay hpo e2 e3
        as_aux_lemma =>
          go_enter Tryz.func19, Tryz.ntmps19
          go_upto_region 1 with fail
          change Code.wp _ _ _ _ (W.alloc (.cells cs.toArray 30))
          rw [← hw0, ← hg]
          clear hw0 hg
          go_upto_region 3 with (first
            | (refine wpl_loadS rfl 30 (.tmp 1) rfl ⟨g, 0, none⟩ rfl cs Tryz.isAgg30 IO.out KO.out ?_)
            | (go_at_call 21; refine (CM.out _ LW0.out).mono ?_; rintro e w1 ⟨rfl, h1⟩; have B1 : Hid (Below w0.heap.size w0 w1) := Lib.hid h1; clear h1))
          obtain ⟨y0, y1, y2⟩ := KK.out _ B1.out
          have LW := Lib.hid (HW.out _ B1.out)
          clear KK
          go_wp2
          go_ret2
          exact ⟨by rw [HV.out]; rfl, LW.out⟩
end Go.Proofs.YtpbnigpdpkfpaaaGreatDoor
namespace Go.Proofs.YtpbnigpdpkfpaaaGreatDoor
open Go.RowKit
set_option maxRecDepth 20000 in
set_option maxHeartbeats 6400000 in
theorem objId_any (W : World) (o : Obt) (A : Option Addr) (n k : Nat) (B : Option Addr) (m d : Nat) (h : ObAt W o A n k B m d) (hn : n ≤ 1099511627776) (hm : m ≤ 1099511627776) (hG : Gl W) :
    Calls Tryz.prog 20 #[.agg (objL o A n k B m d).toArray] W fun e W' => e = .returned (idOV o) ∧ Below W.heap.size W W' := by
  have zI := zI_eq
  have b0 := (Below.refl W.heap.size W).alloc (Nat.le_refl _) (.cells (objL o A n k B m d).toArray 30)
  have l0 := b0.alloc (by rw [hsz]; omega) (.cells zero32.toArray 24)
  have k0 := (ObBlk.of (Blk.new W 30 (objL o A n k B m d))).below ((Below.refl _ _).alloc (Nat.le_refl _) (.cells zero32.toArray 24))
  have z0 := Blk.new (W.alloc (.cells (objL o A n k B m d).toArray 30)) 24 zero32
  rw [hsz] at z0
  obtain ⟨w0, hw0⟩ : ∃ w0, w0 = (W.alloc (.cells (objL o A n k B m d).toArray 30)).alloc (.cells zero32.toArray 24) := ⟨_, rfl⟩
  rw [← hw0] at l0 k0 z0
  have HW : Hid (∀ w, Below w0.heap.size w0 w → Below W.heap.size W w) := Lib.hid fun w hw => l0.trans (hw.mono l0.size)
  have cP := objPut_any w0 o A n k B m d (h.below l0) hn hm (hG.below l0)
  unfold putOV at cP
  have io := infoO o A n k B m d
  have HG := Lib.hid hG
  have K0 := Lib.hid k0
  have Z0 := Lib.hid z0
  obtain ⟨g, hg⟩ : ∃ g, g = W.heap.size := ⟨_, rfl⟩
  obtain ⟨g2, hg2⟩ : ∃ g2, g2 = W.heap.size + 1 := ⟨_, rfl⟩
  have G2 : Hid (W.heap.size ≤ g2) := Lib.hid (by omega)
  rw [← hg] at K0
  rw [← hg2] at Z0
  obtain ⟨cs, hcs⟩ : ∃ cs, cs = objL o A n k B m d := ⟨_, rfl⟩
  rw [← hcs] at hw0 cP io ⊢
  have KO : Hid (∀ j v, cs[j]? = some v → w0.cell? ((⟨g, 0, none⟩ : Addr).add j) = some v) := Lib.hid fun j v hv => by rw [addr_row _ rfl, Nat.zero_add]; rw [hcs] at hv; exact K0.out.blk.cell j v hv
  have KK : Hid (∀ w, Below w0.heap.size w0 w → w.cell? ⟨g, 0, none⟩ = some (.int .i64 o.kd)) := Lib.hid fun w hw => (K0.out.below hw).kd
  have IO := Lib.hid io
  unfold idOV
  cases hq : mayO o
  · rw [hq] at cP
    have CP := Lib.hid cP
    clear h hn hm hG b0 l0 k0 z0 cP io hcs hq K0
    go_enter Tryz.func20, Tryz.ntmps20
    go_upto_region 1 with fail
    change Code.wp _ _ _ _ ((W.alloc (.cells cs.toArray 30)).alloc (.cells zero32.toArray 24))
    rw [← hw0, ← hg2, ← hg]
    clear hw0 hg hg2
    go_wp2_with (first
      | (refine wpl_loadS rfl 30 (.tmp 1) rfl ⟨g, 0, none⟩ rfl cs Tryz.isAgg30 IO.out KO.out ?_)
      | (go_at_call 19; refine CP.out.mono ?_; rintro e w1 ⟨rfl, h1⟩; have B1 := Lib.hid h1; have Z1 := Lib.hid (Z0.out.below h1); clear h1)
      | (refine wpl_build rfl 24 _ rfl zero32 (by kernel_rfl) ?_)
      | (refine wpl_store rfl 24 (.tmp 2) _ rfl g2 zero32 rfl rfl 24 zero32 Z1.out (by rw [Tryz.sizeId]; simp [zero32]) rfl (Bs_one _) ?_))
    refine bodyPost_ret (res_row2 rfl _ _ g2 24 zero32 32 5 rfl (Z1.out.row _) Tryz.underlying24 (by rw [Tryz.sizeId]; simp [zero32])) rfl ?_
    exact ⟨rfl, below_setRow' (HW.out _ B1.out) G2.out _⟩
  · obtain ⟨pb, hpb⟩ : ∃ pb : ByteArray, pb = ⟨(putO o).toArray⟩ := ⟨_, rfl⟩
    have hpz : pb.size ≤ 1099511627776 := by have := putO_size o h.com.bits hq; rw [hpb, ba_size]; show (putO o).length ≤ _; omega
    have cO : ∀ w, Below w0.heap.size w0 w → Calls Tryz.prog 70 #[.int .i64 o.kd, .string pb] w fun e w' => e = .returned (.agg (Bs (sha256 (ofL o.kd (putO o)))).toArray) ∧ Below w.heap.size w w' := fun w hw => by
      have := of_any w o.kd pb hpz (HG.out.below (HW.out w hw))
      have e : pb.data.toList = putO o := by rw [hpb]
      rwa [e] at this
    rw [hq] at cP
    simp only [cond_true] at cP
    rw [← hpb] at cP
    have sl : (Bs (sha256 (ofL o.kd (putO o)))).length = 32 := by simp
    have so := Bs_one (sha256 (ofL o.kd (putO o)))
    generalize Bs (sha256 (ofL o.kd (putO o))) = sv at cO sl so ⊢
    generalize o.kd = kd at cO KK
    have CP := Lib.hid cP
    have CO := Lib.hid cO
    have SL := Lib.hid sl
    have SO := Lib.hid so
    clear h hn hm hG b0 l0 k0 z0 cP io hcs hq K0 hpb hpz cO sl so
    go_enter Tryz.func20, Tryz.ntmps20
    go_upto_region 1 with fail
    change Code.wp _ _ _ _ ((W.alloc (.cells cs.toArray 30)).alloc (.cells zero32.toArray 24))
    rw [← hw0, ← hg2, ← hg]
    clear hw0 hg hg2
    go_wp2_with (first
      | (refine wpl_loadS rfl 30 (.tmp 1) rfl ⟨g, 0, none⟩ rfl cs Tryz.isAgg30 IO.out KO.out ?_)
      | (go_at_call 19; refine CP.out.mono ?_; rintro e w1 ⟨rfl, h1⟩; have B1 := Lib.hid h1; have Z1 := Lib.hid (Z0.out.below h1); have y0 := KK.out _ h1; clear h1)
      | (go_at_call 70; refine (CO.out _ B1.out).mono ?_; rintro e w2 ⟨rfl, h2⟩; have B2 := Lib.hid (B1.out.trans (h2.mono B1.out.size)); have Z2 := Lib.hid (Z1.out.below h2); clear h2)
      | (refine wpl_store rfl 24 (.tmp 2) _ rfl g2 sv rfl rfl 24 zero32 Z2.out (by rw [Tryz.sizeId, SL.out]) (by rw [SL.out]; simp [zero32]) SO.out ?_))
    refine bodyPost_ret (res_row2 rfl _ _ g2 24 sv 32 5 rfl (Z2.out.row _) Tryz.underlying24 (by rw [Tryz.sizeId, SL.out])) rfl ?_
    exact ⟨rfl, below_setRow' (HW.out _ B2.out) G2.out _⟩
end Go.Proofs.YtpbnigpdpkfpaaaGreatDoor
namespace Go.Proofs.YtpbnigpdpkfpaaaGreatDoor
open Go.RowKit
set_option maxRecDepth 20000 in
set_option maxHeartbeats 6400000 in
theorem links_none (W : World) (o : Obt) (A : Option Addr) (n k : Nat) (B : Option Addr) (m d : Nat) (hk : o.kd ≠ 2 ∧ o.kd ≠ 3) :
    Calls Tryz.prog 28 #[.agg (objL o A n k B m d).toArray] W (LinksPost W (linksO o)) := by
  have hl : linksO o = [] := by unfold linksO; rw [if_neg hk.1, if_neg hk.2]
  rw [hl]
  have l0 := (Below.refl W.heap.size W).alloc (Nat.le_refl _) (.cells (objL o A n k B m d).toArray 30)
  have k0 := (ObBlk.of (Blk.new W 30 (objL o A n k B m d))).kd
  obtain ⟨w0, hw0⟩ : ∃ w0, w0 = W.alloc (.cells (objL o A n k B m d).toArray 30) := ⟨_, rfl⟩
  rw [← hw0] at l0 k0
  have f2 : (o.kd == (2 : Int)) = false := by simpa using hk.1
  have f3 : (o.kd == (3 : Int)) = false := by simpa using hk.2
  have L0 := Lib.hid l0
  generalize objL o A n k B m d = cs at hw0 ⊢
  generalize o.kd = kd at k0 f2 f3
  clear hk hl l0
  go_enter Tryz.func28, Tryz.ntmps28
  go_upto_region 1 with fail
  change Code.wp _ _ _ _ (W.alloc (.cells cs.toArray 30))
  rw [← hw0]
  clear hw0
  go_wp2
  go_ret
  exact ⟨none, 0, rfl, RowQ.nil _ _ _ _, L0.out⟩
end Go.Proofs.YtpbnigpdpkfpaaaGreatDoor
namespace Go.Proofs.YtpbnigpdpkfpaaaGreatDoor
open Go.RowKit
set_option maxRecDepth 20000 in
set_option maxHeartbeats 6400000 in
theorem links_com (W : World) (o : Obt) (A : Option Addr) (n k : Nat) (B : Option Addr) (m d : Nat) (h : ObAt W o A n k B m d) (hm : m ≤ 1099511627776) (hk : o.kd = 3) :
    Calls Tryz.prog 28 #[.agg (objL o A n k B m d).toArray] W (LinksPost W (linksO o)) := by
  have hl : linksO o = [o.com.tree] ++ o.com.ps := by unfold linksO; rw [if_neg (by omega), if_pos hk]; rfl
  rw [hl]
  have LN := Lib.hid h.com.len
  have l0 := (Below.refl W.heap.size W).alloc (Nat.le_refl _) (.cells (objL o A n k B m d).toArray 30)
  have kb := ObBlk.of (Blk.new W 30 (objL o A n k B m d))
  obtain ⟨w0, hw0⟩ : ∃ w0, w0 = W.alloc (.cells (objL o A n k B m d).toArray 30) := ⟨_, rfl⟩
  rw [← hw0] at l0 kb
  have s0 := srcI_below h.com.row l0
  have k0 := kb.kd
  rw [hk] at k0
  have kt : ∀ j v, (encI o.com.tree)[j]? = some v → w0.cell? ((⟨W.heap.size, 3, none⟩ : Addr).add j) = some v := fun j v hv => kb.com j v (comL_tree _ _ _ _ j v hv)
  have kp : ∀ w, Below w0.heap.size w0 w → w.cell? ⟨W.heap.size, 35, none⟩ = some (.slice B m d) := fun w hw => by
    have := (kb.below hw).com 32 _ (comL_at o.com B m d).1
    rwa [addr_row _ rfl] at this
  have L0 := Lib.hid l0
  have S0 := Lib.hid s0
  have KT := Lib.hid kt
  have KP := Lib.hid kp
  have IT := Lib.hid (infoId o.com.tree)
  have HM := Lib.hid hm
  obtain ⟨g, hg⟩ : ∃ g, g = W.heap.size := ⟨_, rfl⟩
  rw [← hg] at k0 KT KP
  have G := Lib.hid hg
  generalize objL o A n k B m d = cs at hw0 ⊢
  clear h hm hk hl l0 kb s0 kt kp
  go_enter Tryz.func28, Tryz.ntmps28
  go_upto_region 1 with fail
  change Code.wp _ _ _ _ (W.alloc (.cells cs.toArray 30))
  rw [← hw0, ← hg]
  clear hw0 hg
  go_wp2_with (first
    | (refine wpl_loadS rfl 24 (.tmp 26) rfl ⟨g, 3, none⟩ rfl (encI o.com.tree) Tryz.isAgg24 IT.out KT.out ?_)
    | (refine wpl_buildE idtE rfl 25 24 1 _ rfl [o.com.tree] rfl rfl (.agg zero32.toArray) 32 Tryz.underlying25 Tryz.infoIdz (by decide) (by decide) ?_; have R1 := Lib.hid (row_new idtE w0 W.heap.size 24 [o.com.tree] L0.out.size (show (1 : Nat) ≤ maxLen by decide)); have L1 := Lib.hid (L0.out.alloc L0.out.size (.cells (idtE.row [o.com.tree]).toArray 24)); have B1 : Hid (Below w0.heap.size w0 (w0.alloc (.cells (idtE.row [o.com.tree]).toArray 24))) := Lib.hid ((Below.refl _ _).alloc (Nat.le_refl _) _); have kp1 := KP.out _ B1.out; have S1 := Lib.hid (srcI_below S0.out B1.out); generalize w0.heap.size = g1 at R1 B1 ⊢; generalize World.alloc w0 (.cells (idtE.row [o.com.tree]).toArray 24) = w1 at R1 L1 B1 kp1 S1 ⊢)
    | (at_builtin; refine wpl_append rfl (.tmp 28) (.tmp 31) 25 rfl W.heap.size 24 (.agg zero32.toArray) 32 32 Tryz.underlying25 Tryz.infoIdz rfl (by decide) (.slice (some ⟨g1, 0, none⟩) 1 1) 1 (rowI [o.com.tree]) rfl R1.out B m d (rowI o.com.ps) rfl S1.out (by have := HM.out; omega) (by have := HM.out; omega) L1.out.size ?_; intro v2 w2 hr2 hg2 ha2; have R2 := Lib.hid hr2; have L2 := Lib.hid (L1.out.grown hg2 L1.out.size (fun k e => (R1.out.lt k e).1)); clear hr2 hg2 ha2))
  go_ret
  have e : (o.com.tree :: o.com.ps).length = 1 + m := by rw [List.length_cons, LN.out]; omega
  have e2 : rowI (o.com.tree :: o.com.ps) = rowI [o.com.tree] ++ rowI o.com.ps := by rw [← rowI_append]; rfl
  obtain ⟨A2, d2, rfl, _, _⟩ := R2.out.shape
  refine ⟨A2, d2, by rw [e]; rfl, ?_, L2.out⟩
  rw [e, e2]
  exact R2.out
theorem links_any (W : World) (o : Obt) (A : Option Addr) (n k : Nat) (B : Option Addr) (m d : Nat) (h : ObAt W o A n k B m d) (hn : n ≤ 1099511627776) (hm : m ≤ 1099511627776) :
    Calls Tryz.prog 28 #[.agg (objL o A n k B m d).toArray] W (LinksPost W (linksO o)) := by
  by_cases h2 : o.kd = 2
  · exact links_tree W o A n k B m d h hn h2
  · by_cases h3 : o.kd = 3
    · exact links_com W o A n k B m d h hm h3
    · exact links_none W o A n k B m d ⟨h2, h3⟩
end Go.Proofs.YtpbnigpdpkfpaaaGreatDoor
namespace Go.Proofs.YtpbnigpdpkfpaaaGreatDoor
open Go.RowKit
theorem eqC_symm {a b : Com} (h : eqC a b = true) : eqC b a = true := by
  unfold eqC at h ⊢
  simp only [Bool.and_eq_true, decide_eq_true_eq] at h ⊢
  exact ⟨⟨⟨h.1.1.1.symm, h.1.1.2.symm⟩, h.1.2.symm⟩, h.2.symm⟩
/-- An object's bytes are read as that object. -/
theorem getO_put (o : Obt) (h : mayO o = true) (h64 : o.com.wh < 18446744073709551616) (hn : ∀ e ∈ o.ents, e.nm.length ≤ maxLen) (hb : o.blob.length ≤ 1048576) (hnt : o.com.note.length ≤ 1048576) :
    ∃ o3, getO o.kd (putO o) = (o3, 0) ∧ eqO o3 o = true ∧ (∀ e ∈ o3.ents, e.nm.length ≤ maxLen) ∧ o3.blob.length ≤ 1048576 ∧ o3.com.wh < 18446744073709551616 ∧ o3.com.note.length ≤ 1048576 ∧ o3.ents.length ≤ 20 ∧ o3.com.ps.length ≤ 4 := by
  unfold mayO at h
  by_cases h1 : o.kd = 1
  · rw [if_pos h1] at h
    simp only [Bool.and_eq_true, decide_eq_true_eq] at h
    refine ⟨⟨1, o.blob, [], noCom⟩, ?_, ?_, fun e he => absurd he List.not_mem_nil, hb, by show (0 : Nat) < _; decide, Nat.zero_le _, Nat.zero_le _, Nat.zero_le _⟩
    · have hp : putO o = o.blob := by unfold putO; rw [if_neg (by omega), if_neg (by omega)]
      rw [hp]
      unfold getO
      rw [if_pos h1, if_pos h.2]
    · unfold eqO
      simp only [Bool.and_eq_true, decide_eq_true_eq]
      exact ⟨⟨⟨h1.symm, trivial⟩, h.1.1.symm⟩, eqC_symm h.1.2⟩
  · rw [if_neg h1] at h
    by_cases h2 : o.kd = 2
    · rw [if_pos h2] at h
      simp only [Bool.and_eq_true, decide_eq_true_eq] at h
      refine ⟨⟨2, [], o.ents, noCom⟩, ?_, ?_, hn, Nat.zero_le _, by show (0 : Nat) < _; decide, Nat.zero_le _, mayT_len h.2, Nat.zero_le _⟩
      · unfold getO putO
        rw [if_neg h1, if_pos h2, if_pos h2, getT_put h.2]
      · unfold eqO
        simp only [Bool.and_eq_true, decide_eq_true_eq]
        exact ⟨⟨⟨h2.symm, h.1.1.symm⟩, trivial⟩, eqC_symm h.1.2⟩
    · rw [if_neg h2] at h
      by_cases h3 : o.kd = 3
      · rw [if_pos h3] at h
        simp only [Bool.and_eq_true, decide_eq_true_eq] at h
        refine ⟨⟨3, [], [], o.com⟩, ?_, ?_, fun e he => absurd he List.not_mem_nil, Nat.zero_le _, h64, hnt, Nat.zero_le _, (mayC_fit h.2).1⟩
        · unfold getO putO
          rw [if_neg h1, if_neg h2, if_pos h3, if_neg h2, if_pos h3, getC_put o.com h64 h.2]
        · unfold eqO
          simp only [Bool.and_eq_true, decide_eq_true_eq]
          exact ⟨⟨⟨h3.symm, h.1.1.symm⟩, h.1.2.symm⟩, eqC_self _⟩
      · rw [if_neg h3] at h
        cases h
end Go.Proofs.YtpbnigpdpkfpaaaGreatDoor
