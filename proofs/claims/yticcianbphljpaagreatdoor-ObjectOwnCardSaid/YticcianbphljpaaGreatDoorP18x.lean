/- ref5.GetTree: the document's tree from bytes is the program's. colporteurlaw6.entries: rows of the same entries. TreeAll: entries as bytes, and back; any bytes; names, paths: the law's walk. object.May: may it be an object? Of all kinds, in one walk. object.Put: an object's bytes, or none. Commits in the laws' walks: what holds of one that was read; two of them, cut, in blocks of their own. object.Id: an object's name. -/
import Derived.Test.YticcianbphljpaaGreatDoorP8x
import Derived.Test.YticcianbphljpaaGreatDoorP4x
import Derived.Test.YticcianbphljpaaGreatDoorP5x
import Derived.Deep.CutBlock
import Derived.Test.YticcianbphljpaaGreatDoorP7x
import Derived.Test.YticcianbphljpaaGreatDoorEe
import Derived.Test.YticcianbphljpaaGreatDoorBn
import Derived.Test.YticcianbphljpaaGreatDoorP17x
import Derived.Test.YticcianbphljpaaGreatDoorP14x
import Derived.Test.YticcianbphljpaaGreatDoorP9x
import Derived.Test.YticcianbphljpaaGreatDoorP10x
import Derived.Test.YticcianbphljpaaGreatDoorP16x
namespace Go.Proofs.YticcianbphljpaaGreatDoor
open Go.RowKit
/-- What ref5.GetTree tells. -/
def RGetTPost (W : World) (l : List UInt8) (e : Ending) (W' : World) : Prop := match getT l with
  | some es => ∃ A c, e = .returned (.tuple #[.slice A es.length c, .bool true]) ∧ RowQ W' W.heap.size 27 34 (.slice A es.length c) es.length (entE.row es) ∧ Below W.heap.size W W'
  | none => e = .returned (.tuple #[.slice none 0 0, .bool false]) ∧ Below W.heap.size W W'
theorem oneT_is (xl : List UInt8) : oneT xl = if nmLen (xl.drop 2) + 35 ≤ xl.length ∧ xl.getD 1 0 = 32 ∧ (xl.getD 0 0 = 100 ∨ xl.getD 0 0 = 102) then
    some (⟨(xl.drop 2).take (nmLen (xl.drop 2)), decide (xl.getD 0 0 = 100), idAt (xl.drop 2)⟩, (xl.drop 2).drop (nmLen (xl.drop 2) + 33)) else none := by
  match xl with
  | [] => rfl
  | [c] => rw [if_neg (by simp)]; rfl
  | c :: d :: r =>
    show oneT (c :: d :: r) = if nmLen r + 35 ≤ r.length + 2 ∧ d = 32 ∧ (c = 100 ∨ c = 102) then some (⟨r.take (nmLen r), decide (c = 100), idAt r⟩, r.drop (nmLen r + 33)) else none
    rw [oneT]
    by_cases h : d = 32 ∧ (c = 100 ∨ c = 102) ∧ nmLen r + 33 ≤ r.length
    · rw [if_pos h, if_pos ⟨by omega, h.1, h.2.1⟩]
      rfl
    · rw [if_neg h, if_neg (fun hh => h ⟨hh.2.1, hh.2.2, by omega⟩)]
theorem nm_before {r : List UInt8} {p : Nat} (h : p < nmLen r) : ∃ hp : p < r.length, r[p] ≠ 0 := by
  have hl := nmLen_le r
  have h1 : p < r.length := by omega
  refine ⟨h1, ?_⟩
  have h2 : (r.takeWhile (· ≠ 0))[p]'h = r[p] := by
    have := List.takeWhile_prefix (p := fun x : UInt8 => decide (x ≠ 0)) (l := r)
    exact this.getElem h
  have h3 := List.all_takeWhile (p := fun x : UInt8 => decide (x ≠ 0)) (l := r)
  have h4 := List.all_eq_true.1 h3 _ (List.getElem_mem h)
  rw [← h2]
  simpa using h4
theorem nm_at : ∀ {r : List UInt8} (h : nmLen r < r.length), r[nmLen r] = 0 := by
  intro r
  induction r with
  | nil => intro h; simp at h
  | cons c r ih =>
    intro h
    by_cases hc : c = 0
    · subst hc
      have e : nmLen (0 :: r) = 0 := by simp [nmLen]
      simp [e]
    · have e : nmLen (c :: r) = nmLen r + 1 := by simp [nmLen, hc]
      have h2 : nmLen r < r.length := by rw [e, List.length_cons] at h; omega
      have := ih h2
      simpa [e] using this
/-- The cells of an entry of which q bytes of the name are laid. -/
def partE (nb : ByteArray) (b : Bool) (ids : List UInt8) (q : Nat) : List Value := [.string nb, .bool b] ++ Bs (ids.take q ++ List.replicate (32 - q) 0)
theorem partE_zero (nm : List UInt8) (b : Bool) (ids : List UInt8) : partE ⟨nm.toArray⟩ b ids 0 = encE ⟨nm, b, default⟩ := rfl
theorem partE_len (nb : ByteArray) (b : Bool) (ids : List UInt8) (q : Nat) (hi : ids.length = 32) (hq : q ≤ 32) : (partE nb b ids q).length = 34 := by
  simp [partE, hi]
  omega
theorem partE_next (nb : ByteArray) (b : Bool) (ids : List UInt8) (q : Nat) (hi : ids.length = 32) (hq : q < 32) : (partE nb b ids q).set (2 + q) (.int .u8 (ub (ids.getD q 0))) = partE nb b ids (q + 1) := by
  unfold partE
  have e1 : ∀ (v : Value) (L : List Value), ([Value.string nb, .bool b] ++ L).set (2 + q) v = [Value.string nb, .bool b] ++ L.set q v := fun v L => by
    rw [List.set_append_right _ _ (by simp)]
    congr 2
    simp
  rw [e1, Bs_set]
  congr 2
  have e2 : List.replicate (32 - q) (0 : UInt8) = 0 :: List.replicate (32 - (q + 1)) 0 := by rw [← List.replicate_succ]; congr 1; omega
  have hql : q < ids.length := by omega
  rw [List.set_append_right _ _ (by rw [List.length_take]; omega), List.length_take, show q - min q ids.length = 0 by omega, e2, List.set_cons_zero, List.take_succ_eq_append_getElem hql, List.getD_eq_getElem?_getD, List.getElem?_eq_getElem hql, Option.getD_some, List.append_assoc]
  rfl
theorem partE_full (nm : List UInt8) (b : Bool) (r : List UInt8) (h : nmLen r + 33 ≤ r.length) : partE ⟨nm.toArray⟩ b ((r.drop (nmLen r + 1)).take 32) 32 = encE ⟨nm, b, idAt r⟩ := by
  have hl : ((r.drop (nmLen r + 1)).take 32).length = 32 := by rw [List.length_take, List.length_drop]; omega
  have hid : idAt r = ⟨(r.drop (nmLen r + 1)).take 32, hl⟩ := Subtype.ext (by
    show (((r.drop (nmLen r + 1)).take 32) ++ List.replicate 32 0).take 32 = _
    rw [List.take_append_of_le_length (by omega), List.take_of_length_le (l := (r.drop (nmLen r + 1)).take 32) (by omega)])
  rw [hid]
  unfold partE encE encI
  rw [List.take_of_length_le (l := (r.drop (nmLen r + 1)).take 32) (by omega), Nat.sub_self, List.replicate_zero, List.append_nil]
theorem meas_step (k j : Nat) (h : j < k) : k - (intOf (.int .i64 ((j : Int) + 1))).toNat < k - (intOf (.int .i64 (j : Int))).toNat := by
  simp only [intOf]
  omega
theorem ba_at (x : ByteArray) (k : Nat) (h : k < x.size) : x[k]'h = x.data.toList.getD k 0 := by
  have h2 : k < x.data.toList.length := by rw [← ba_size]; exact h
  rw [ByteArray.getElem_eq_getElem_data, ← Array.getElem_toList, List.getD_eq_getElem?_getD, List.getElem?_eq_getElem h2, Option.getD_some]
theorem laidP (w : World) (cs : List Value) : Below w.heap.size w ((w.alloc (.cells zeroE.toArray 27)).setRow w.heap.size cs.toArray) ∧ Blk ((w.alloc (.cells zeroE.toArray 27)).setRow w.heap.size cs.toArray) w.heap.size 27 cs :=
  ⟨below_setRow' ((Below.refl _ _).alloc (Nat.le_refl _) _) (Nat.le_refl _) _, (Blk.new w 27 zeroE).row _⟩
set_option maxRecDepth 20000 in
set_option maxHeartbeats 6400000 in
theorem rgetTree_any (W : World) (s : ByteArray) (l : List UInt8) (hl : l = s.data.toList) (hs : s.size < 4294967281) : Calls Tryz.prog 25 #[.string s] W (RGetTPost W l) := by
  have hls : l.length = s.size := by rw [hl, ← ba_size]
  have I0 : GetIn W l s [] (.slice none 0 0) W := ⟨RowQ.nil _ _ _ _, Below.refl _ _, by simp [hls], fun e he => absurd he (by simp), (by rw [hl]; cases getL s.data.toList <;> rfl)⟩
  have K0 := Lib.hid I0
  have HS := Lib.hid (show l.length < 4294967281 by omega)
  clear hl hs hls I0
  go_enter Tryz.func25, Tryz.ntmps25
  go_upto_region 3 with fail
  go_loopw [4, 5] (fun v b wr => ∃ (x : ByteArray) (es : List Ent), b = .string x ∧ GetIn W l x es v wr) (fun _ b _ => match b with | .string x => x.size | _ => 0)
  case atStart => exact ⟨s, [], rfl, K0.out⟩
  case round =>
    obtain ⟨x, es, rfl, hI⟩ := hrel
    clear K0
    obtain ⟨v0, hv0⟩ : ∃ v, v = wr := ⟨_, rfl⟩
    subst hv0
    have HI := Lib.hid hI
    clear hI
    obtain ⟨A1, c1, rfl, hc1, hm1⟩ := HI.out.row.shape
    by_cases hx : x.data.toList = []
    · have hx0 : x = ⟨#[]⟩ := ba_ext (by rw [hx])
      subst hx0
      have hget : getL l = some es := by rw [HI.out.get]; show some (es ++ []) = _; rw [List.append_nil]
      have hT : getT l = if mayT es = true then some es else none := by unfold getT; rw [hget]; rfl
      have hle := HI.out.sum
      have cM := fun w (hw : Below v0.heap.size v0 w) => refMayTree_any w A1 es.length c1 es (entE.src_below (HI.out.row.src (entE.row_one _)) hw) (by have := HS.out; omega) (fun e he => by have := HI.out.fit e he; have := HS.out; simp only [maxLen]; omega)
      have HT := Lib.hid hT
      cases hm : mayT es
      all_goals
        rw [hm] at HT
        simp only [hm] at cM
        have CM := Lib.hid cM
        clear cM hm hget hT hx hle
        go_wp2_with (go_at_call 60; refine (CM.out _ (Below.refl _ _)).mono ?_; rintro e w1 ⟨rfl, h1⟩; have B1 := Lib.hid h1; clear h1)
        go_ret2
        unfold RGetTPost
        rw [HT.out]
        first
          | exact ⟨rfl, HI.out.low.trans (B1.out.mono HI.out.low.size)⟩
          | exact ⟨A1, c1, rfl, HI.out.row.below B1.out, HI.out.low.trans (B1.out.mono HI.out.low.size)⟩
    · have hne : x.toList.isEmpty = false := by rw [ByteArray.toList_eq]; simpa using hx
      have hxs : x.size < 4294967281 := by have := HI.out.sum; have := HS.out; omega
      obtain ⟨xl, hxl⟩ : ∃ xl, xl = x.data.toList := ⟨_, rfl⟩
      have hz : xl.length = x.size := by rw [hxl, ← ba_size]
      obtain ⟨p, hp⟩ : ∃ p, p = nmLen (xl.drop 2) := ⟨_, rfl⟩
      have hple := nmLen_le (xl.drop 2)
      rw [← hp, List.length_drop] at hple
      have HX := Lib.hid hx
      have HXL := Lib.hid hxl
      have HZ := Lib.hid hz
      have HP := Lib.hid hp
      have HPL := Lib.hid hple
      have HXS := Lib.hid hxs
      clear hx hxl hz hp hple hxs
      obtain ⟨k, hkp⟩ : ∃ k, k = p + 2 := ⟨_, rfl⟩
      have HKP := Lib.hid hkp
      clear hkp hne hc1 hm1
      have hne : x.toList.isEmpty = false := by rw [ByteArray.toList_eq, ← HXL.out]; have := HX.out; rw [← HXL.out] at this; simpa using this
      go_upto_block 2 with fail
      go_cut [6] (fun kv wx => kv = .int .i64 k ∧ wx = v0)
      case first =>
        as_aux_lemma =>
          go_wp2_with fail
          go_loopw [6] (fun i wx => ∃ j : Nat, 2 ≤ j ∧ j ≤ k ∧ i = .int .i64 j ∧ wx = v0) (fun i _ => k - (intOf i).toNat)
          case atStart => exact ⟨2, Nat.le_refl _, by have := HKP.out; omega, rfl, rfl⟩
          case round =>
            obtain ⟨j, hj2, hjk, rfl, hw⟩ := hrel
            have hw1 := hw.symm
            subst hw1
            clear hw
            by_cases hlt : j < k
            · have hb : ∃ h : j < x.size, x[j]'h ≠ 0 := by
                obtain ⟨h1, h2⟩ := nm_before (r := xl.drop 2) (p := j - 2) (by rw [← HP.out]; have := HKP.out; omega)
                rw [List.length_drop] at h1
                have h3 : j < x.size := by have := HZ.out; omega
                refine ⟨h3, ?_⟩
                rw [List.getElem_drop] at h2
                rw [ba_at x j h3, ← HXL.out, List.getD_eq_getElem?_getD, List.getElem?_eq_getElem (by have := HZ.out; omega), Option.getD_some]
                have e : 2 + (j - 2) = j := by omega
                simpa only [e] using h2
              obtain ⟨hjz, hj0⟩ := hb
              have k1 : (j : Int) < (x.size : Int) := by omega
              have jb : wrap64 ((j : Int) + 1) = (j : Int) + 1 := by have := HXS.out; unfold wrap64; omega
              have hv : (((x[j]'hjz).toNat : Int) != 0) = true := by
                rw [bne_iff_ne]
                intro e
                exact hj0 (UInt8.toNat_inj.1 (by have : (0 : UInt8).toNat = 0 := rfl; omega))
              have HLT := Lib.hid hlt
              have HJ2 := Lib.hid hj2
              clear hj2 hjk hlt hj0
              go_wp2
              go_roundw
              case measure => first | exact meas_step k j HLT.out | (rw [jb]; exact meas_step k j HLT.out)
              case rel => exact ⟨j + 1, by have := HJ2.out; omega, HLT.out, by go_num, by first | trivial | rfl⟩
            · have hjk' : j = k := by omega
              subst hjk'
              have hex : ((x.size : Int) ≤ (j : Int)) ∨ ∃ h : j < x.size, (((x[j]'h).toNat : Int) != 0) = false := by
                by_cases hkz : j < x.size
                · refine .inr ⟨hkz, ?_⟩
                  have hq := HKP.out
                  have h1 := nm_at (r := xl.drop 2) (by rw [← HP.out, List.length_drop]; have := HZ.out; omega)
                  rw [List.getElem_drop] at h1
                  have h2 : x[j]'hkz = 0 := by
                    rw [ba_at x j hkz, ← HXL.out, List.getD_eq_getElem?_getD, List.getElem?_eq_getElem (by have := HZ.out; omega), Option.getD_some, ← h1]
                    have e : 2 + nmLen (xl.drop 2) = j := by rw [← HP.out]; omega
                    simp only [e]
                  rw [h2]
                  rfl
                · exact .inl (by omega)
              clear hj2 hjk hlt
              rcases hex with hk1 | ⟨hkz, hv⟩
              · go_wp2
                go_meet
                exact ⟨rfl, by first | trivial | rfl⟩
              · have k1 : (j : Int) < (x.size : Int) := by omega
                go_wp2
                go_meet
                exact ⟨rfl, by first | trivial | rfl⟩
      case rest =>
        obtain ⟨rfl, hw⟩ := hcut
        have hw1 := hw.symm
        subst hw1
        clear hw
        have kz : k ≤ 4294967290 := by have := HPL.out; have := HZ.out; have := HKP.out; have := HXS.out; omega
        obtain ⟨m, hm⟩ : ∃ m, m = k + 33 := ⟨_, rfl⟩
        have kb : wrap64 ((k : Int) + 33) = (m : Int) := by unfold wrap64; omega
        obtain ⟨k', hk'⟩ : ∃ k', k' = k + 1 := ⟨_, rfl⟩
        have kc : wrap64 ((k : Int) + 1) = (k' : Int) := by unfold wrap64; omega
        have KZ := Lib.hid kz
        have HM := Lib.hid hm
        have HK := Lib.hid hk'
        clear hm hk'
        clear kz
        by_cases hbig : p + 35 ≤ x.size
        · have k33 : (m : Int) ≤ (x.size : Int) := by have := HKP.out; have := HM.out; omega
          have x1 : (1 : Int) < (x.size : Int) := by omega
          have x0 : (0 : Int) < (x.size : Int) := by omega
          have z0 : 0 < x.size := by omega
          have z1 : 1 < x.size := by omega
          obtain ⟨c0, hc0⟩ : ∃ c, x[0]'z0 = c := ⟨_, rfl⟩
          obtain ⟨c1', hc1'⟩ : ∃ c, x[1]'z1 = c := ⟨_, rfl⟩
          have g0 : xl.getD 0 0 = c0 := by rw [HXL.out, ← ba_at x 0 z0, hc0]
          have g1 : xl.getD 1 0 = c1' := by rw [HXL.out, ← ba_at x 1 z1, hc1']
          have hone := oneT_is xl
          rw [← HP.out, g0, g1] at hone
          have HB := Lib.hid hbig
          by_cases h32 : c1' = 32
          · have v1 : (((x[1]'z1).toNat : Int) != 32) = false := by rw [hc1', h32]; rfl
            by_cases hd : c0 = 100 ∨ c0 = 102
            · rw [if_pos ⟨by have := HZ.out; omega, h32, hd⟩] at hone
              obtain ⟨r, hr⟩ : ∃ r, r = xl.drop 2 := ⟨_, rfl⟩
              have hrz : r.length + 2 = x.size := by rw [hr, List.length_drop]; have := HZ.out; omega
              have hpr : p = nmLen r := by rw [hr]; exact HP.out
              obtain ⟨nm, hnm⟩ : ∃ nm, nm = r.take p := ⟨_, rfl⟩
              obtain ⟨ids, hids⟩ : ∃ ids, ids = (r.drop (p + 1)).take 32 := ⟨_, rfl⟩
              have hil : ids.length = 32 := by rw [hids, List.length_take, List.length_drop]; omega
              obtain ⟨nb, hnb⟩ : ∃ nb : ByteArray, x.extract 2 k = nb := ⟨_, rfl⟩
              have hnn : nb = ⟨nm.toArray⟩ := by
                rw [← hnb]
                refine ba_ext ?_
                rw [ba_extract, ← HXL.out, hnm, hr, HKP.out, List.drop_take]
                congr 1
              obtain ⟨b, hb⟩ : ∃ b, b = decide (c0 = 100) := ⟨_, rfl⟩
              have hp0 : partE nb b ids 0 = encE ⟨nm, b, default⟩ := by rw [hnn]; exact partE_zero nm b ids
              have hp32 : partE nb b ids 32 = encE ⟨nm, b, idAt r⟩ := by rw [hnn, hids, hpr]; exact partE_full nm b r (by omega)
              have bu : Tryz.prog.built 27 [(0, .string nb), (1, .bool b)] = some (partE nb b ids 0).toArray := by
                rw [built_nameE nb b, hp0, hnn]
              have hbyte : ∀ q, q < 32 → ∃ h : k' + q < x.size, x[k' + q]'h = ids.getD q 0 := fun q hq => by
                have h1 : k' + q < x.size := by have := HK.out; have := HKP.out; omega
                refine ⟨h1, ?_⟩
                have h2 : q < ids.length := by omega
                rw [ba_at x _ h1, ← HXL.out]
                simp only [hids, hr, List.getD_eq_getElem?_getD, List.getElem?_take, if_pos hq, List.getElem?_drop]
                have e : 2 + (p + 1 + q) = k' + q := by have := HK.out; have := HKP.out; omega
                rw [e]
              rw [← hr, ← hnm, ← hb] at hone
              have ho : oneT x.data.toList = some (⟨nm, b, idAt r⟩, r.drop (p + 33)) := by rw [← HXL.out, hone]
              have hlast : ∀ z : ByteArray, z = x.extract m x.size → z = ⟨(r.drop (p + 33)).toArray⟩ := fun z hz => ba_ext (by
                rw [hz, ba_from, ← HXL.out, hr, List.drop_drop]
                congr 1
                have := HM.out
                have := HKP.out
                omega)
              have hend : (x.extract m x.size).size < x.size := by rw [ByteArray.size_extract]; have := HM.out; omega
              have htb : ∀ q : Nat, q < 32 → wrap64 ((k' : Int) + (q : Int)) = ((k' + q : Nat) : Int) := fun q hq => by
                have := KZ.out
                have := HK.out
                unfold wrap64
                omega
              have HTB := Lib.hid htb
              have HES := Lib.hid (show es.length + 1 ≤ 4294967281 from by have := HI.out.sum; have := HS.out; omega)
              have HO := Lib.hid ho
              have HLA := Lib.hid hlast
              have HEN := Lib.hid hend
              have HBY := Lib.hid hbyte
              have BU := Lib.hid bu
              have P0 := Lib.hid hp0
              have P32 := Lib.hid hp32
              have HIL := Lib.hid hil
              have k2 : (2 : Int) ≤ (k : Int) := by have := HKP.out; omega
              have kx : (k : Int) ≤ (x.size : Int) := by have := HKP.out; omega
              have hv1 : (((x[0]'z0).toNat : Int) == 100) = b := by
                rw [hb, hc0, Bool.eq_iff_iff, beq_iff_eq, decide_eq_true_eq]
                constructor
                · intro h
                  exact UInt8.toNat_inj.1 (by have : (100 : UInt8).toNat = 100 := rfl; omega)
                · rintro rfl; rfl
              have hv2 : (((x[0]'z0).toNat : Int) != 100) = !b := by rw [← hv1]; rfl
              have hv3 : b = false → (((x[0]'z0).toNat : Int) != 102) = false := fun h => by
                rcases hd with rfl | rfl
                · rw [hb] at h; cases h
                · rw [hc0]; rfl
              have HV3 := Lib.hid hv3
              clear htb hrz hpr hnm hids hil hnn hp0 hp32 bu hbyte hone ho hlast hend hv3 hd h32 g0 g1 hc0 hc1' hbig hb hr
              as_aux_lemma =>
                cases b
                · have v3 := HV3.out rfl
                  clear HV3
                  go_upto_region 9 with fail
                  refine wp_region_any (by kernel_rfl) ?_
                  change wpAny _ _ _ _ _ _ _ (World.drew _)
                  have BD := Lib.hid (HI.out.low.drew)
                  have RD : Hid (RowQ v0.drew W.heap.size 27 34 (.slice A1 es.length c1) es.length (entE.row es)) := Lib.hid HI.out.row.drew
                  generalize World.drew v0 = v1 at BD RD ⊢
                  refine wpAny_bare [0, 1, 2, 3, 4, 5] 3 (by rfl) (by kernel_rfl) (fun _ _ _ d _ h => by cases d <;> exact h) ?_
                  simp only [bareO, List.filterMap_cons, List.filterMap_nil, List.getElem?_toArray, List.getElem?_cons_succ, List.getElem?_cons_zero]
                  repeat (first | quiet_step (fail) | go_big_quiet_step (fail))
                  refine wpQuiet_nil ?_
                  have PI := Lib.hid (show (Tryz.prog.info? 27).map (·.size) = some (partE nb false ids 0).length from by rw [P0.out]; exact infoE _)
                  have PO := Lib.hid (show ∀ v ∈ partE nb false ids 0, v.oneCell' = true from by rw [P0.out]; exact entE.one _)
                  have PL := Lib.hid (partE_len nb false ids 0 HIL.out (by omega))
                  refine wpAny_ready (rs := [6, 7]) (by kernel_rfl) (by simp) ?_
                  refine (AllReady.cons rfl (fun K hK => ?_) (AllReady.cons rfl (fun K hK => ?_) AllReady.nil))
                  refine step_build (by rfl) 27 [(0, .tmp 46), (1, .tmp 49)] rfl (partE nb false ids 0).toArray BU.out ?_
                  refine hK _ _ ?_
                  clear hK K
                  refine wpAny_ready (rs := [7]) (by kernel_rfl) (by simp) ?_
                  refine (AllReady.cons rfl (fun K hK => ?_) AllReady.nil)
                  go_simp
                  refine hK _ _ ?_
                  clear hK K
                  refine wpAny_ready (rs := [8]) (by kernel_rfl) (by simp) ?_
                  refine (AllReady.cons rfl (fun K hK => ?_) AllReady.nil)
                  refine step_storeS (by rfl) 27 (.tmp 7) (.tmp 50) rfl v1.heap.size (partE nb false ids 0) rfl rfl 27 zeroE (Blk.new v1 _ _) PI.out (by rw [PL.out]; rfl) PO.out ?_
                  refine hK _ _ ?_
                  clear hK K
                  refine wpAny_done (by kernel_rfl) ?_ _
                  rotate_left
                  go_simp
                  refine hK _ _ ?_
                  clear hK K
                  refine wpAny_ready (rs := [6]) (by kernel_rfl) (by simp) ?_
                  refine (AllReady.cons rfl (fun K hK => ?_) AllReady.nil)
                  refine step_build (by rfl) 27 [(0, .tmp 46), (1, .tmp 49)] rfl (partE nb false ids 0).toArray BU.out ?_
                  refine hK _ _ ?_
                  clear hK K
                  refine wpAny_ready (rs := [8]) (by kernel_rfl) (by simp) ?_
                  refine (AllReady.cons rfl (fun K hK => ?_) AllReady.nil)
                  refine step_storeS (by rfl) 27 (.tmp 7) (.tmp 50) rfl v1.heap.size (partE nb false ids 0) rfl rfl 27 zeroE (Blk.new v1 _ _) PI.out (by rw [PL.out]; rfl) PO.out ?_
                  refine hK _ _ ?_
                  clear hK K
                  refine wpAny_done (by kernel_rfl) ?_ _
                  all_goals
                    generalize hw : World.setRow _ _ _ = w2
                    have E2 : Hid (Below v1.heap.size v1 w2) := Lib.hid (by rw [← hw]; exact (laidP v1 _).1)
                    have K2 : Hid (Blk w2 v1.heap.size 27 (partE nb false ids 0)) := Lib.hid (by rw [← hw]; exact (laidP v1 _).2)
                    clear hw PI PO PL
                    obtain ⟨g, hg⟩ : ∃ g, g = v1.heap.size := ⟨_, rfl⟩
                    rw [← hg] at K2 ⊢
                    have HGG := Lib.hid hg
                    clear hg
                    go_upto_block 4 with fail
                    go_cut [8] (fun _ wx => Below v1.heap.size v1 wx ∧ Blk wx g 27 (partE nb false ids 32))
                    case first =>
                      go_wp2_with fail
                      go_loopw [8] (fun i wx => ∃ q : Nat, q ≤ 32 ∧ i = .int .i64 q ∧ Below v1.heap.size v1 wx ∧ Blk wx g 27 (partE nb false ids q)) (fun i _ => 32 - (intOf i).toNat)
                      case atStart => exact ⟨0, Nat.zero_le _, rfl, E2.out, K2.out⟩
                      case round =>
                        obtain ⟨q, hq, rfl, hb, hk⟩ := hrel
                        have HB := Lib.hid hb
                        have HQ := Lib.hid hk
                        by_cases hlt : q < 32
                        · obtain ⟨hxs, hxv⟩ := HBY.out q hlt
                          have tb := HTB.out q hlt
                          generalize k' + q = t at hxs hxv tb
                          have q1 : (q : Int) < 32 := by omega
                          have t1 : (t : Int) < (x.size : Int) := by omega
                          obtain ⟨u, hu⟩ : ∃ u, ub (ids.getD q 0) = u := ⟨_, rfl⟩
                          have hv : ((x[t]'hxs).toNat : Int) = u := by rw [hxv, ← hu]; rfl
                          obtain ⟨old, hcell⟩ : ∃ old, wr.cell? ⟨g, 2 + q, none⟩ = some old := ⟨_, hk.cell (2 + q) _ (List.getElem?_eq_getElem (by rw [partE_len nb false ids q HIL.out hq]; omega))⟩
                          have hfr := hk.frozen (2 + q)
                          have HLT := Lib.hid hlt
                          have HU := Lib.hid hu
                          clear hxv hu hb hk hq hlt
                          go_wp2
                          go_roundw
                          case measure => exact meas_step 32 q HLT.out
                          case rel =>
                            refine ⟨q + 1, HLT.out, by go_num, ?_, ?_⟩
                            · exact HB.out.trans (show Below v1.heap.size wr (wr.setCell ⟨g, 2 + q, none⟩ (.int .u8 u)) from ⟨rfl, rfl, rfl, by simp [World.setCell], fun i hi => heap_setCell_other wr ⟨g, 2 + q, none⟩ i _ (by show i ≠ g; rw [HGG.out]; exact Nat.ne_of_lt hi)⟩)
                            · rw [← partE_next nb false ids q HIL.out HLT.out, HU.out]
                              exact HQ.out.setCell (2 + q) _
                        · have h32 : q = 32 := by omega
                          subst h32
                          clear hb hk hq hlt
                          go_wp2
                          go_meet
                          exact ⟨HB.out, HQ.out⟩
                    case rest =>
                      obtain ⟨hb, hk⟩ := hcut
                      rw [P32.out] at hk
                      have RC := Lib.hid (RD.out.below hb)
                      have LC := Lib.hid (BD.out.trans (hb.mono BD.out.size))
                      have KC := Lib.hid hk
                      have IE := Lib.hid (infoE ⟨nm, false, idAt r⟩)
                      generalize (⟨nm, false, idAt r⟩ : Ent) = e at KC IE HO
                      clear hb hk E2 K2 RD BD HGG BU P0 P32 HIL HTB
                      go_wp2_with (first
                        | (refine wpl_loadS rfl 27 (.tmp 7) rfl ⟨g, 0, none⟩ rfl (encE e) Tryz.isAgg27 IE.out (fun j u hu => by rw [addr_row _ rfl, Nat.zero_add]; exact KC.out.cell j u hu) ?_)
                        | (refine wpl_buildE entE rfl 22 27 1 _ rfl [e] rfl rfl (.agg zeroE.toArray) 56 Tryz.underlying22 (by kernel_rfl) (by decide) (by decide) ?_; have R3 := Lib.hid (RC.out.alloc (.cells (entE.row [e]).toArray 27)); have L3 := Lib.hid (LC.out.alloc LC.out.size (.cells (entE.row [e]).toArray 27)); have S3 := Lib.hid (row_src entE wc 27 [e]); generalize wc.heap.size = g3 at S3 ⊢; generalize World.alloc wc (.cells (entE.row [e]).toArray 27) = w3 at R3 L3 S3 ⊢)
                        | (at_builtin; refine wpl_append rfl (.tmp 64) (.tmp 66) 22 rfl W.heap.size 27 (.agg zeroE.toArray) 34 56 Tryz.underlying22 (by kernel_rfl) rfl (by decide) (.slice A1 es.length c1) es.length (entE.row es) rfl R3.out (some ⟨g3, 0, none⟩) 1 1 (entE.row [e]) rfl S3.out (Nat.le_trans HES.out (by decide)) (Nat.le_trans (Nat.mul_le_mul_right 56 HES.out) (by decide)) L3.out.size ?_; intro v4 w4 hr4 hg4 ha4; have R4 := Lib.hid hr4; have L4 := Lib.hid (L3.out.grown hg4 L3.out.size (fun k e => (R3.out.lt k e).1)); clear hr4 hg4 ha4))
                      go_roundw
                      case measure => exact HEN.out
                      case rel =>
                        refine ⟨x.extract m x.size, es ++ [e], rfl, ?_⟩
                        rw [HLA.out _ rfl]
                        exact HI.out.next HX.out HO.out R4.out L4.out
                · clear HV3
                  go_upto_region 9 with fail
                  refine wp_region_any (by kernel_rfl) ?_
                  change wpAny _ _ _ _ _ _ _ (World.drew _)
                  have BD := Lib.hid (HI.out.low.drew)
                  have RD : Hid (RowQ v0.drew W.heap.size 27 34 (.slice A1 es.length c1) es.length (entE.row es)) := Lib.hid HI.out.row.drew
                  generalize World.drew v0 = v1 at BD RD ⊢
                  refine wpAny_bare [0, 1, 2, 3, 4, 5] 3 (by rfl) (by kernel_rfl) (fun _ _ _ d _ h => by cases d <;> exact h) ?_
                  simp only [bareO, List.filterMap_cons, List.filterMap_nil, List.getElem?_toArray, List.getElem?_cons_succ, List.getElem?_cons_zero]
                  repeat (first | quiet_step (fail) | go_big_quiet_step (fail))
                  refine wpQuiet_nil ?_
                  have PI := Lib.hid (show (Tryz.prog.info? 27).map (·.size) = some (partE nb true ids 0).length from by rw [P0.out]; exact infoE _)
                  have PO := Lib.hid (show ∀ v ∈ partE nb true ids 0, v.oneCell' = true from by rw [P0.out]; exact entE.one _)
                  have PL := Lib.hid (partE_len nb true ids 0 HIL.out (by omega))
                  refine wpAny_ready (rs := [6, 7]) (by kernel_rfl) (by simp) ?_
                  refine (AllReady.cons rfl (fun K hK => ?_) (AllReady.cons rfl (fun K hK => ?_) AllReady.nil))
                  refine step_build (by rfl) 27 [(0, .tmp 46), (1, .tmp 49)] rfl (partE nb true ids 0).toArray BU.out ?_
                  refine hK _ _ ?_
                  clear hK K
                  refine wpAny_ready (rs := [7]) (by kernel_rfl) (by simp) ?_
                  refine (AllReady.cons rfl (fun K hK => ?_) AllReady.nil)
                  go_simp
                  refine hK _ _ ?_
                  clear hK K
                  refine wpAny_ready (rs := [8]) (by kernel_rfl) (by simp) ?_
                  refine (AllReady.cons rfl (fun K hK => ?_) AllReady.nil)
                  refine step_storeS (by rfl) 27 (.tmp 7) (.tmp 50) rfl v1.heap.size (partE nb true ids 0) rfl rfl 27 zeroE (Blk.new v1 _ _) PI.out (by rw [PL.out]; rfl) PO.out ?_
                  refine hK _ _ ?_
                  clear hK K
                  refine wpAny_done (by kernel_rfl) ?_ _
                  rotate_left
                  go_simp
                  refine hK _ _ ?_
                  clear hK K
                  refine wpAny_ready (rs := [6]) (by kernel_rfl) (by simp) ?_
                  refine (AllReady.cons rfl (fun K hK => ?_) AllReady.nil)
                  refine step_build (by rfl) 27 [(0, .tmp 46), (1, .tmp 49)] rfl (partE nb true ids 0).toArray BU.out ?_
                  refine hK _ _ ?_
                  clear hK K
                  refine wpAny_ready (rs := [8]) (by kernel_rfl) (by simp) ?_
                  refine (AllReady.cons rfl (fun K hK => ?_) AllReady.nil)
                  refine step_storeS (by rfl) 27 (.tmp 7) (.tmp 50) rfl v1.heap.size (partE nb true ids 0) rfl rfl 27 zeroE (Blk.new v1 _ _) PI.out (by rw [PL.out]; rfl) PO.out ?_
                  refine hK _ _ ?_
                  clear hK K
                  refine wpAny_done (by kernel_rfl) ?_ _
                  all_goals
                    generalize hw : World.setRow _ _ _ = w2
                    have E2 : Hid (Below v1.heap.size v1 w2) := Lib.hid (by rw [← hw]; exact (laidP v1 _).1)
                    have K2 : Hid (Blk w2 v1.heap.size 27 (partE nb true ids 0)) := Lib.hid (by rw [← hw]; exact (laidP v1 _).2)
                    clear hw PI PO PL
                    obtain ⟨g, hg⟩ : ∃ g, g = v1.heap.size := ⟨_, rfl⟩
                    rw [← hg] at K2 ⊢
                    have HGG := Lib.hid hg
                    clear hg
                    go_upto_block 4 with fail
                    go_cut [8] (fun _ wx => Below v1.heap.size v1 wx ∧ Blk wx g 27 (partE nb true ids 32))
                    case first =>
                      go_wp2_with fail
                      go_loopw [8] (fun i wx => ∃ q : Nat, q ≤ 32 ∧ i = .int .i64 q ∧ Below v1.heap.size v1 wx ∧ Blk wx g 27 (partE nb true ids q)) (fun i _ => 32 - (intOf i).toNat)
                      case atStart => exact ⟨0, Nat.zero_le _, rfl, E2.out, K2.out⟩
                      case round =>
                        obtain ⟨q, hq, rfl, hb, hk⟩ := hrel
                        have HB := Lib.hid hb
                        have HQ := Lib.hid hk
                        by_cases hlt : q < 32
                        · obtain ⟨hxs, hxv⟩ := HBY.out q hlt
                          have tb := HTB.out q hlt
                          generalize k' + q = t at hxs hxv tb
                          have q1 : (q : Int) < 32 := by omega
                          have t1 : (t : Int) < (x.size : Int) := by omega
                          obtain ⟨u, hu⟩ : ∃ u, ub (ids.getD q 0) = u := ⟨_, rfl⟩
                          have hv : ((x[t]'hxs).toNat : Int) = u := by rw [hxv, ← hu]; rfl
                          obtain ⟨old, hcell⟩ : ∃ old, wr.cell? ⟨g, 2 + q, none⟩ = some old := ⟨_, hk.cell (2 + q) _ (List.getElem?_eq_getElem (by rw [partE_len nb true ids q HIL.out hq]; omega))⟩
                          have hfr := hk.frozen (2 + q)
                          have HLT := Lib.hid hlt
                          have HU := Lib.hid hu
                          clear hxv hu hb hk hq hlt
                          go_wp2
                          go_roundw
                          case measure => exact meas_step 32 q HLT.out
                          case rel =>
                            refine ⟨q + 1, HLT.out, by go_num, ?_, ?_⟩
                            · exact HB.out.trans (show Below v1.heap.size wr (wr.setCell ⟨g, 2 + q, none⟩ (.int .u8 u)) from ⟨rfl, rfl, rfl, by simp [World.setCell], fun i hi => heap_setCell_other wr ⟨g, 2 + q, none⟩ i _ (by show i ≠ g; rw [HGG.out]; exact Nat.ne_of_lt hi)⟩)
                            · rw [← partE_next nb true ids q HIL.out HLT.out, HU.out]
                              exact HQ.out.setCell (2 + q) _
                        · have h32 : q = 32 := by omega
                          subst h32
                          clear hb hk hq hlt
                          go_wp2
                          go_meet
                          exact ⟨HB.out, HQ.out⟩
                    case rest =>
                      obtain ⟨hb, hk⟩ := hcut
                      rw [P32.out] at hk
                      have RC := Lib.hid (RD.out.below hb)
                      have LC := Lib.hid (BD.out.trans (hb.mono BD.out.size))
                      have KC := Lib.hid hk
                      have IE := Lib.hid (infoE ⟨nm, true, idAt r⟩)
                      generalize (⟨nm, true, idAt r⟩ : Ent) = e at KC IE HO
                      clear hb hk E2 K2 RD BD HGG BU P0 P32 HIL HTB
                      go_wp2_with (first
                        | (refine wpl_loadS rfl 27 (.tmp 7) rfl ⟨g, 0, none⟩ rfl (encE e) Tryz.isAgg27 IE.out (fun j u hu => by rw [addr_row _ rfl, Nat.zero_add]; exact KC.out.cell j u hu) ?_)
                        | (refine wpl_buildE entE rfl 22 27 1 _ rfl [e] rfl rfl (.agg zeroE.toArray) 56 Tryz.underlying22 (by kernel_rfl) (by decide) (by decide) ?_; have R3 := Lib.hid (RC.out.alloc (.cells (entE.row [e]).toArray 27)); have L3 := Lib.hid (LC.out.alloc LC.out.size (.cells (entE.row [e]).toArray 27)); have S3 := Lib.hid (row_src entE wc 27 [e]); generalize wc.heap.size = g3 at S3 ⊢; generalize World.alloc wc (.cells (entE.row [e]).toArray 27) = w3 at R3 L3 S3 ⊢)
                        | (at_builtin; refine wpl_append rfl (.tmp 64) (.tmp 66) 22 rfl W.heap.size 27 (.agg zeroE.toArray) 34 56 Tryz.underlying22 (by kernel_rfl) rfl (by decide) (.slice A1 es.length c1) es.length (entE.row es) rfl R3.out (some ⟨g3, 0, none⟩) 1 1 (entE.row [e]) rfl S3.out (Nat.le_trans HES.out (by decide)) (Nat.le_trans (Nat.mul_le_mul_right 56 HES.out) (by decide)) L3.out.size ?_; intro v4 w4 hr4 hg4 ha4; have R4 := Lib.hid hr4; have L4 := Lib.hid (L3.out.grown hg4 L3.out.size (fun k e => (R3.out.lt k e).1)); clear hr4 hg4 ha4))
                      go_roundw
                      case measure => exact HEN.out
                      case rel =>
                        refine ⟨x.extract m x.size, es ++ [e], rfl, ?_⟩
                        rw [HLA.out _ rfl]
                        exact HI.out.next HX.out HO.out R4.out L4.out
            · have ho : oneT x.data.toList = none := by rw [← HXL.out, hone, if_neg (fun h => hd h.2.2)]
              have hT : getT l = none := by unfold getT; rw [HI.out.get, getL_next HX.out, ho]; rfl
              have HT := Lib.hid hT
              have v2 : (((x[0]'z0).toNat : Int) != 100) = true := by
                rw [hc0, bne_iff_ne]
                intro e
                exact hd (.inl (UInt8.toNat_inj.1 (by have : (100 : UInt8).toNat = 100 := rfl; omega)))
              have v3 : (((x[0]'z0).toNat : Int) != 102) = true := by
                rw [hc0, bne_iff_ne]
                intro e
                exact hd (.inr (UInt8.toNat_inj.1 (by have : (102 : UInt8).toNat = 102 := rfl; omega)))
              clear hone ho hT hd h32 g0 g1 hc0 hc1' hbig
              as_aux_lemma =>
                go_wp2
                refine bodyPost_ret (v := .tuple #[.slice none 0 0, .bool false]) (results_tmp2 (t := 2) (u := 3) rfl _ _ _) rfl ?_
                unfold RGetTPost
                rw [HT.out]
                exact ⟨rfl, HI.out.low⟩
          · have ho : oneT x.data.toList = none := by rw [← HXL.out, hone, if_neg (fun h => h32 h.2.1)]
            have hT : getT l = none := by unfold getT; rw [HI.out.get, getL_next HX.out, ho]; rfl
            have HT := Lib.hid hT
            have v1 : (((x[1]'z1).toNat : Int) != 32) = true := by
              rw [hc1', bne_iff_ne]
              intro e
              exact h32 (UInt8.toNat_inj.1 (by have : (32 : UInt8).toNat = 32 := rfl; omega))
            clear hone ho hT h32 g0 g1 hc0 hc1' hbig
            as_aux_lemma =>
              go_wp2
              refine bodyPost_ret (v := .tuple #[.slice none 0 0, .bool false]) (results_tmp2 (t := 2) (u := 3) rfl _ _ _) rfl ?_
              unfold RGetTPost
              rw [HT.out]
              exact ⟨rfl, HI.out.low⟩
        · have ho : oneT x.data.toList = none := by
            rw [← HXL.out, oneT_is, if_neg]
            rintro ⟨h, _⟩
            rw [← HP.out, HZ.out] at h
            exact hbig h
          have hT : getT l = none := by unfold getT; rw [HI.out.get, getL_next HX.out, ho]; rfl
          have HT := Lib.hid hT
          have k33 : (m : Int) > (x.size : Int) := by have := HKP.out; have := HM.out; omega
          clear ho hT hbig
          as_aux_lemma =>
            go_wp2
            refine bodyPost_ret (v := .tuple #[.slice none 0 0, .bool false]) (results_tmp2 (t := 2) (u := 3) rfl _ _ _) rfl ?_
            unfold RGetTPost
            rw [HT.out]
            exact ⟨rfl, HI.out.low⟩
end Go.Proofs.YticcianbphljpaaGreatDoor
namespace Go.Proofs.YticcianbphljpaaGreatDoor
open Go.RowKit
set_option maxRecDepth 20000 in
set_option maxHeartbeats 3200000 in
theorem entries_same (W : World) (A B : Option Addr) (n c d : Nat) (es : List Ent) (hs : Src W 34 A n (entE.row es)) (ht : Src W 34 B n (entE.row es)) (hn : n ≤ 1099511627776) (hc : n ≤ c) (hd : n ≤ d) :
    Calls Tryz.prog 26 #[.slice A n c, .slice B n d] W fun e W' => e = .returned (.bool true) ∧ Below W.heap.size W W' := by
  have HS := Lib.hid hs
  have HT := Lib.hid ht
  have n1 : (n : Int) ≤ 1099511627776 := by omega
  have c1 : (n : Int) ≤ (c : Int) := by omega
  have d1 : (n : Int) ≤ (d : Int) := by omega
  clear hs ht hn hc hd
  go_enter Tryz.func26, Tryz.ntmps26
  go_upto_region 4 with fail
  go_loopw [13] (fun i wx => ∃ j : Nat, j ≤ n ∧ i = .int .i64 j ∧ Below W.heap.size W wx) (fun i _ => n - (intOf i).toNat)
  case atStart => exact ⟨0, Nat.zero_le _, rfl, Below.refl _ _⟩
  case round =>
    obtain ⟨j, hj, rfl, hb⟩ := hrel
    have HB := Lib.hid hb
    by_cases hjn : j < n
    · have j1 : (j : Int) < (n : Int) := by omega
      have JN := Lib.hid hjn
      obtain ⟨hl, b1, o1, rfl, _⟩ := entE.src_at HS.out (by omega)
      obtain ⟨_, b2, o2, rfl, _⟩ := entE.src_at HT.out (by omega)
      obtain ⟨x, hx⟩ : ∃ x, x = es[j]! := ⟨_, rfl⟩
      have A1 : Hid (∀ w, Below W.heap.size W w → ∀ i v, (encE x)[i]? = some v → w.cell? ((⟨b1, o1 + j * 34, none⟩ : Addr).add i) = some v) := Lib.hid fun w hw i v hv => by
        obtain ⟨_, b, o, e, hat⟩ := entE.src_at (entE.src_below HS.out hw) (by omega)
        injection e with e
        injection e with e4 e5 _
        subst e4; subst e5
        have := hat j hjn i v (by rw [← hx]; exact hv)
        rw [addr_row _ rfl]
        exact this
      have A2 : Hid (∀ w, Below W.heap.size W w → ∀ i v, (encE x)[i]? = some v → w.cell? ((⟨b2, o2 + j * 34, none⟩ : Addr).add i) = some v) := Lib.hid fun w hw i v hv => by
        obtain ⟨_, b, o, e, hat⟩ := entE.src_at (entE.src_below HT.out hw) (by omega)
        injection e with e
        injection e with e4 e5 _
        subst e4; subst e5
        have := hat j hjn i v (by rw [← hx]; exact hv)
        rw [addr_row _ rfl]
        exact this
      have ne : ∀ w, (binOp .neq 27 (.agg (encE x).toArray) (.agg (encE x).toArray)).run Tryz.prog w = .ok (.bool false) w := fun w => by have := neqAtE.1 x x w; simpa using this
      have gu : ∀ op p q w, (eqGuard op 27 p q (.agg (encE x).toArray) (.agg (encE x).toArray)).run Tryz.prog w = .ok () w := fun op p q w => neqAtE.2 op p q x x w
      have IE := Lib.hid (infoE x)
      clear hb hj hjn hl hx
      go_upto_region 6 with fail
      have hemp := ext_nonempty wr
      have LD1 : Hid (∀ w', (∃ s : Ext wr, w' = s.at_) → ∀ i u, (encE x)[i]? = some u → w'.cell? ((⟨b1, o1 + j * 34, none⟩ : Addr).add i) = some u) := Lib.hid fun w' ⟨s, hw⟩ i u hu => by
        rw [hw]
        exact A1.out _ (HB.out.trans (s.below.mono HB.out.size)) i u hu
      have LD2 : Hid (∀ w', (∃ s : Ext wr, w' = s.at_) → ∀ i u, (encE x)[i]? = some u → w'.cell? ((⟨b2, o2 + j * 34, none⟩ : Addr).add i) = some u) := Lib.hid fun w' ⟨s, hw⟩ i u hu => by
        rw [hw]
        exact A2.out _ (HB.out.trans (s.below.mono HB.out.size)) i u hu
      refine wp_region_ext (by kernel_rfl) (by kernel_rfl) ?_
      repeat (first
        | (refine wpQuiet_loadS (by rfl) 27 (.tmp 18) rfl ⟨b1, o1 + j * 34, none⟩ rfl (encE x) Tryz.isAgg27 IE.out LD1.out ?_)
        | (refine wpQuiet_loadS (by rfl) 27 (.tmp 22) rfl ⟨b2, o2 + j * 34, none⟩ rfl (encE x) Tryz.isAgg27 IE.out LD2.out ?_)
        | quiet_step (fail)
        | go_big_quiet_step (fail))
      refine wpQuiet_nil ?_
      rintro _ ⟨s9, rfl⟩
      have S9 := Lib.hid s9.below
      generalize s9.at_ = w9 at S9 ⊢
      go_wp2
      go_roundw
      case measure => simp [intOf]; have := JN.out; omega
      case rel => exact ⟨j + 1, JN.out, by go_num, HB.out.trans (S9.out.mono HB.out.size)⟩
    · have hjk : j = n := by omega
      have j1 : ¬ ((j : Int) < (n : Int)) := by omega
      clear hj hjn hb
      go_wp2
      go_ret
      exact ⟨rfl, HB.out⟩
end Go.Proofs.YticcianbphljpaaGreatDoor
namespace Go.Proofs.YticcianbphljpaaGreatDoor
open Go.RowKit
theorem Calls.grow {f : FuncId} {args : Array Value} {w : World} {v : Value} (h : Calls Tryz.prog f args w fun e w' => e = .returned v ∧ w' = w) : Calls Tryz.prog f args w fun e w' => e = .returned v ∧ Below w.heap.size w w' :=
  h.mono fun _ w' ⟨he, hw⟩ => ⟨he, by rw [hw]; exact Below.refl _ _⟩
theorem getT_may {s : List UInt8} {es : List Ent} (h : getT s = some es) : mayT es = true := by
  unfold getT at h
  cases hl : getL s with
  | none => rw [hl] at h; cases h
  | some l =>
    rw [hl] at h
    by_cases hm : mayT l = true
    · have h2 : (if mayT l = true then some l else none) = some es := h
      rw [if_pos hm] at h2
      rw [← Option.some.inj h2]
      exact hm
    · have h2 : (if mayT l = true then some l else none) = some es := h
      rw [if_neg hm] at h2
      cases h2
theorem pathV_len (l : List UInt8) : (pathV l).1.length ≤ l.length + 1 := by
  unfold pathV
  split
  · simp
  · split
    · exact partsP_len l
    · simp
theorem eqlE_self (e : Ent) (w : World) : (binOp .eql 27 (.agg (encE e).toArray) (.agg (encE e).toArray)).run Tryz.prog w = .ok (.bool true) w := by
  have := eqlAtE.1 e e w
  simpa using this
theorem src_none (w : World) : Src w 34 none 0 (entE.row ([] : List Ent)) := ⟨rfl, fun h => absurd h (Nat.lt_irrefl 0), fun u hu => by cases hu⟩
theorem rowCap {w : World} {B : Nat} {e : TypeId} {k : Nat} {A : Option Addr} {n c : Nat} {xs : List Value} (h : RowQ w B e k (.slice A n c) n xs) : n ≤ c := by
  obtain ⟨_, _, e, h1, _⟩ := h.shape
  injection e with _ _ e
  rw [e]
  exact h1
theorem built_zeroE : Tryz.prog.built 27 [] = some zeroE.toArray := by rw [builtE]; rfl
end Go.Proofs.YticcianbphljpaaGreatDoor
namespace Go.Proofs.YticcianbphljpaaGreatDoor
open Go.RowKit
set_option maxRecDepth 20000 in
set_option maxHeartbeats 16000000 in
theorem objMay_any (W : World) (o : Obt) (A : Option Addr) (n k : Nat) (B : Option Addr) (m d : Nat) (h : ObAt W o A n k B m d) (hn : n ≤ 1099511627776) (hm : m ≤ 1099511627776) :
    Calls Tryz.prog 38 #[.agg (objL o A n k B m d).toArray] W fun e W' => e = .returned (.bool (mayO o)) ∧ Below W.heap.size W W' := by
  obtain ⟨bb, hbb⟩ : ∃ bb : ByteArray, bb = ⟨o.blob.toArray⟩ := ⟨_, rfl⟩
  obtain ⟨hp1, hp2⟩ := empty_blob o.blob bb hbb
  have hp3 := empty_ents o.ents n h.len
  have hbz : o.blob.length = bb.size := by rw [hbb, ba_size]
  obtain ⟨r, hr⟩ : ∃ r, r = mayO o := ⟨_, rfl⟩
  rw [← hr]
  unfold mayO at hr
  rw [hbz] at hr
  have l0 := (Below.refl W.heap.size W).alloc (Nat.le_refl _) (.cells (objL o A n k B m d).toArray 64)
  have k0 := ObBlk.of (Blk.new W 64 (objL o A n k B m d))
  rw [← hbb] at k0
  obtain ⟨w0, hw0⟩ : ∃ w0, w0 = W.alloc (.cells (objL o A n k B m d).toArray 64) := ⟨_, rfl⟩
  rw [← hw0] at l0 k0
  have cQ : ∀ w, Below W.heap.size W w → Calls Tryz.prog 30 #[.agg (comL o.com B m d).toArray, .agg zeroC.toArray] w fun e w' => e = .returned (.bool (eqC o.com noCom)) ∧ Below w.heap.size w w' := fun w hw => commitEq_any w o.com noCom B m d none 0 0 (h.com.below hw) (noComAt w) hm (by omega)
  have cT := fun w (hw : Below W.heap.size W w) => treeMay_any w A n k o.ents (entE.src_below h.row hw) hn h.names
  have cM := fun w (hw : Below W.heap.size W w) => commitMay_any w o.com B m d (h.com.below hw) hm
  have ic := infoC o.com B m d
  generalize eqC o.com noCom = pc at cQ hr
  generalize decide (o.blob = []) = pb at hp1 hp2 hr
  generalize decide (o.ents = []) = pt at hp3 hr
  generalize mayT o.ents = pm at cT hr
  generalize mayC o.com = pn at cM hr
  obtain ⟨g, hg⟩ : ∃ g, g = W.heap.size := ⟨_, rfl⟩
  rw [← hg] at k0
  have L0 := Lib.hid l0
  have K0 := Lib.hid k0
  have HW : Hid (∀ w, Below w0.heap.size w0 w → Below W.heap.size W w) := Lib.hid fun w hw => l0.trans (hw.mono l0.size)
  have CQ : Hid (∀ s : Ext w0, Calls Tryz.prog 30 #[.agg (comL o.com B m d).toArray, .agg zeroC.toArray] s.at_ fun e w' => e = .returned (.bool pc) ∧ Below s.at_.heap.size s.at_ w') := Lib.hid fun s => cQ _ (HW.out _ s.below)
  have CT := Lib.hid cT
  have CM := Lib.hid cM
  have IC := Lib.hid ic
  have x0 : ∀ s : Ext w0, s.at_.cell? ⟨g, 1, none⟩ = some (.string bb) := fun s => (k0.below s.below).blob
  have x1 : ∀ s : Ext w0, s.at_.cell? ⟨g, 2, none⟩ = some (.slice A n k) := fun s => (k0.below s.below).ents
  have XC : Hid (∀ w', (∃ s : Ext w0, w' = s.at_) → ∀ j v, (comL o.com B m d)[j]? = some v → w'.cell? ((⟨g, 3, none⟩ : Addr).add j) = some v) := Lib.hid fun w' ⟨s, hw⟩ j v hv => by rw [hw]; exact (k0.below s.below).com j v hv
  have zV := zCv_eq
  obtain ⟨zC, hzC⟩ : ∃ zC, zC = zeroC := ⟨_, rfl⟩
  rw [← hzC] at zV CQ
  clear hzC
  obtain ⟨cs, hcs⟩ : ∃ cs, cs = objL o A n k B m d := ⟨_, rfl⟩
  obtain ⟨cc, hcc⟩ : ∃ cc, cc = comL o.com B m d := ⟨_, rfl⟩
  rw [← hcs] at hw0 ⊢
  rw [← hcc] at CQ CM IC XC
  have KC : Hid (∀ w, Below w0.heap.size w0 w → ∀ j v, cc[j]? = some v → w.cell? ((⟨g, 3, none⟩ : Addr).add j) = some v) := Lib.hid fun w hw j v hv => (K0.out.below hw).com j v (by rw [← hcc]; exact hv)
  have KK : Hid (∀ w, Below w0.heap.size w0 w → w.cell? ⟨g, 0, none⟩ = some (.int .i64 o.kd) ∧ w.cell? ⟨g, 1, none⟩ = some (.string bb) ∧ w.cell? ⟨g, 2, none⟩ = some (.slice A n k)) := Lib.hid fun w hw => ⟨(K0.out.below hw).kd, (K0.out.below hw).blob, (K0.out.below hw).ents⟩
  obtain ⟨kd, hkd⟩ : ∃ kd, kd = o.kd := ⟨_, rfl⟩
  rw [← hkd] at KK hr
  have HR := Lib.hid hr
  clear h hn hm hbb hbz hr l0 k0 cQ cT cM ic hcs hcc K0 hkd
  go_enter Tryz.func38, Tryz.ntmps38
  go_upto_region 1 with fail
  change Code.wp _ _ _ _ (W.alloc (.cells cs.toArray 64))
  rw [← hw0, ← hg]
  clear hw0 hg
  have hemp := ext_nonempty w0
  refine wp_region_ext (by kernel_rfl) (by kernel_rfl) ?_
  repeat (first
    | quiet_step (fail)
    | go_big_quiet_step (fail)
    | (refine wpQuiet_loadS (by rfl) 34 (.tmp 13) rfl ⟨g, 3, none⟩ rfl cc Tryz.isAgg34 IC.out XC.out ?_)
    | quiet_step ((go_at_call 30; exact Ext.call (CQ.out _))))
  refine wpQuiet_nil ?_
  rintro _ ⟨s9, rfl⟩
  have L1 := Lib.hid s9.below
  generalize s9.at_ = w1 at L1 ⊢
  have LW := Lib.hid (HW.out _ L1.out)
  obtain ⟨y0, y1, y2⟩ := KK.out _ L1.out
  clear x0 x1 hp1 hp2 hp3 CQ XC hemp KK
  by_cases e1 : kd = 1
  · subst e1
    have h1 := HR.out
    rw [if_pos rfl] at h1
    have H1 := Lib.hid h1
    clear HR h1 CT CM KC IC
    as_aux_lemma =>
      cases pt
      · have H2 := Lib.hid (show r = false from H1.out)
        go_wp2
        go_ret
        exact ⟨by rw [H2.out]; rfl, LW.out⟩
      · cases pc
        · have H2 := Lib.hid (show r = false from H1.out)
          go_wp2
          go_ret
          exact ⟨by rw [H2.out]; rfl, LW.out⟩
        · have H2 := Lib.hid (show r = decide (bb.size ≤ 1000) from H1.out)
          go_wp2
          go_ret
          refine ⟨?_, LW.out⟩
          rw [H2.out]
          show Ending.returned (Value.bool _) = Ending.returned (Value.bool _)
          refine congrArg (fun b => Ending.returned (Value.bool b)) ?_
          refine Bool.eq_iff_iff.2 ?_
          simp only [decide_eq_true_eq]
          omega
  · by_cases e2 : kd = 2
    · subst e2
      have h1 := HR.out
      rw [if_neg (by omega), if_pos rfl] at h1
      have H1 := Lib.hid h1
      clear HR h1 e1 CM KC IC
      as_aux_lemma =>
        cases pb
        · have H2 := Lib.hid (show r = false from H1.out)
          go_wp2
          go_ret
          exact ⟨by rw [H2.out]; rfl, LW.out⟩
        · cases pc
          · have H2 := Lib.hid (show r = false from H1.out)
            go_wp2
            go_ret
            exact ⟨by rw [H2.out]; rfl, LW.out⟩
          · have H2 := Lib.hid (show r = pm from H1.out)
            go_wp2_with (go_at_call 15; refine (CT.out _ LW.out).mono ?_; rintro e w2 ⟨rfl, h2⟩; have B2 := Lib.hid h2; clear h2)
            go_ret
            exact ⟨by rw [H2.out]; rfl, LW.out.trans (B2.out.mono LW.out.size)⟩
    · by_cases e3 : kd = 3
      · subst e3
        have h1 := HR.out
        rw [if_neg (by omega), if_neg (by omega), if_pos rfl] at h1
        have H1 := Lib.hid h1
        clear HR h1 e1 e2 CT
        cases pb
        · as_aux_lemma =>
            have H2 := Lib.hid (show r = false from H1.out)
            go_wp2
            go_ret
            exact ⟨by rw [H2.out]; rfl, LW.out⟩
        · cases pt
          · as_aux_lemma =>
              have H2 := Lib.hid (show r = false from H1.out)
              go_wp2
              go_ret
              exact ⟨by rw [H2.out]; rfl, LW.out⟩
          · as_aux_lemma =>
              have H2 := Lib.hid (show r = pn from H1.out)
              go_wp2_with (first
                | (refine wpl_guard (by rfl) ?_; refine wpl_loadS rfl 34 (.tmp 49) rfl ⟨g, 3, none⟩ rfl cc Tryz.isAgg34 IC.out (KC.out _ L1.out) ?_)
                | (go_at_call 28; refine (CM.out _ LW.out).mono ?_; rintro e w2 ⟨rfl, h2⟩; have B2 := Lib.hid h2; clear h2))
              go_ret
              exact ⟨by rw [H2.out]; rfl, LW.out.trans (B2.out.mono LW.out.size)⟩
      · have f1 : (kd == (1 : Int)) = false := by simpa using e1
        have f2 : (kd == (2 : Int)) = false := by simpa using e2
        have f3 : (kd == (3 : Int)) = false := by simpa using e3
        have H2 : Hid (r = false) := Lib.hid (by rw [HR.out, if_neg e1, if_neg e2, if_neg e3])
        clear e1 e2 e3 CT CM KC IC HR
        as_aux_lemma =>
          go_wp2
          go_ret
          exact ⟨by rw [H2.out]; rfl, LW.out⟩
end Go.Proofs.YticcianbphljpaaGreatDoor
namespace Go.Proofs.YticcianbphljpaaGreatDoor
open Go.RowKit
theorem commitPut_fit (c : Com) (h : mayC c = true) : putCV c = .tuple #[.string ⟨(commitB c).toArray⟩, .bool true] := by unfold putCV; rw [h]; rfl
set_option maxRecDepth 20000 in
set_option maxHeartbeats 6400000 in
theorem objPut_any (W : World) (o : Obt) (A : Option Addr) (n k : Nat) (B : Option Addr) (m d : Nat) (h : ObAt W o A n k B m d) (hn : n ≤ 1099511627776) (hm : m ≤ 1099511627776) (hG : Gl W) :
    Calls Tryz.prog 33 #[.agg (objL o A n k B m d).toArray] W fun e W' => e = .returned (putOV o) ∧ Below W.heap.size W W' := by
  obtain ⟨bb, hbb⟩ : ∃ bb : ByteArray, bb = ⟨o.blob.toArray⟩ := ⟨_, rfl⟩
  have l0 := (Below.refl W.heap.size W).alloc (Nat.le_refl _) (.cells (objL o A n k B m d).toArray 64)
  have k0 := ObBlk.of (Blk.new W 64 (objL o A n k B m d))
  rw [← hbb] at k0
  obtain ⟨w0, hw0⟩ : ∃ w0, w0 = W.alloc (.cells (objL o A n k B m d).toArray 64) := ⟨_, rfl⟩
  rw [← hw0] at l0 k0
  have HW : Hid (∀ w, Below w0.heap.size w0 w → Below W.heap.size W w) := Lib.hid fun w hw => l0.trans (hw.mono l0.size)
  have cM := fun w (hw : Below W.heap.size W w) => objMay_any w o A n k B m d (h.below hw) hn hm
  have cT := fun w (hw : Below W.heap.size W w) => treePut_any w A n k o.ents (entE.src_below h.row hw) hn h.names
  have cC := fun w (hw : Below W.heap.size W w) => commitPut_any w o.com B m d (h.com.below hw) hm (hG.below hw)
  have ic := infoC o.com B m d
  have io := infoO o A n k B m d
  have L0 := Lib.hid l0
  have K0 := Lib.hid k0
  obtain ⟨g, hg⟩ : ∃ g, g = W.heap.size := ⟨_, rfl⟩
  rw [← hg] at K0
  obtain ⟨cs, hcs⟩ : ∃ cs, cs = objL o A n k B m d := ⟨_, rfl⟩
  obtain ⟨cc, hcc⟩ : ∃ cc, cc = comL o.com B m d := ⟨_, rfl⟩
  rw [← hcs] at hw0 cM io ⊢
  rw [← hcc] at ic cC
  have KC : Hid (∀ w, Below w0.heap.size w0 w → ∀ j v, cc[j]? = some v → w.cell? ((⟨g, 3, none⟩ : Addr).add j) = some v) := Lib.hid fun w hw j v hv => (K0.out.below hw).com j v (by rw [← hcc]; exact hv)
  have KO : Hid (∀ j v, cs[j]? = some v → w0.cell? ((⟨g, 0, none⟩ : Addr).add j) = some v) := Lib.hid fun j v hv => by rw [addr_row _ rfl, Nat.zero_add]; rw [hcs] at hv; exact K0.out.blk.cell j v hv
  have KK : Hid (∀ w, Below w0.heap.size w0 w → w.cell? ⟨g, 0, none⟩ = some (.int .i64 o.kd) ∧ w.cell? ⟨g, 1, none⟩ = some (.string bb) ∧ w.cell? ⟨g, 2, none⟩ = some (.slice A n k)) := Lib.hid fun w hw => ⟨(K0.out.below hw).kd, (K0.out.below hw).blob, (K0.out.below hw).ents⟩
  have IC := Lib.hid ic
  have IO := Lib.hid io
  obtain ⟨kd, hkd⟩ : ∃ kd, kd = o.kd := ⟨_, rfl⟩
  rw [← hkd] at KK
  have LW0 := Lib.hid (HW.out _ (Below.refl _ _))
  cases hq : mayO o
  · have HV : Hid (putOV o = .tuple #[.string ⟨#[]⟩, .bool false]) := Lib.hid (by unfold putOV; rw [hq]; rfl)
    rw [hq] at cM
    have CM := Lib.hid cM
    clear h hn hm hG hbb l0 k0 cM cT cC ic io hcs hcc hkd hq KK KC
    as_aux_lemma =>
      go_enter Tryz.func33, Tryz.ntmps33
      go_upto_region 1 with fail
      change Code.wp _ _ _ _ (W.alloc (.cells cs.toArray 64))
      rw [← hw0, ← hg]
      clear hw0 hg
      go_wp2_with (first
        | (refine wpl_loadS rfl 64 (.tmp 1) rfl ⟨g, 0, none⟩ rfl cs Tryz.isAgg64 IO.out KO.out ?_)
        | (go_at_call 38; refine (CM.out _ LW0.out).mono ?_; rintro e w1 ⟨rfl, h1⟩; have B1 := Lib.hid h1; clear h1))
      go_ret2
      exact ⟨by rw [HV.out]; rfl, LW0.out.trans (B1.out.mono LW0.out.size)⟩
  · have HV : Hid (putOV o = .tuple #[.string ⟨(putO o).toArray⟩, .bool true]) := Lib.hid (by unfold putOV; rw [hq]; rfl)
    have hmay := hq
    rw [hq] at cM
    unfold mayO at hmay
    rw [← hkd] at hmay
    have CM := Lib.hid cM
    have hpo : putO o = if kd = 2 then treeB o.ents else if kd = 3 then commitB o.com else o.blob := by rw [hkd]; rfl
    by_cases e2 : kd = 2
    · subst e2
      have ht : mayT o.ents = true := by
        rw [if_neg (by omega), if_pos rfl] at hmay
        simp only [Bool.and_eq_true] at hmay
        exact hmay.2
      rw [treePut_fit _ ht] at cT
      rw [if_pos rfl] at hpo
      rw [hpo] at HV
      have CT := Lib.hid cT
      clear h hn hm hG hbb l0 k0 cM cT cC ic io hcs hcc hkd hq KC hmay ht hpo
      as_aux_lemma =>
        go_enter Tryz.func33, Tryz.ntmps33
        go_upto_region 1 with fail
        change Code.wp _ _ _ _ (W.alloc (.cells cs.toArray 64))
        rw [← hw0, ← hg]
        clear hw0 hg
        go_upto_region 3 with (first
          | (refine wpl_loadS rfl 64 (.tmp 1) rfl ⟨g, 0, none⟩ rfl cs Tryz.isAgg64 IO.out KO.out ?_)
          | (go_at_call 38; refine (CM.out _ LW0.out).mono ?_; rintro e w1 ⟨rfl, h1⟩; have B1 : Hid (Below w0.heap.size w0 w1) := Lib.hid h1; clear h1))
        obtain ⟨y0, y1, y2⟩ := KK.out _ B1.out
        have LW := Lib.hid (HW.out _ B1.out)
        clear KK
        go_wp2_with (go_at_call 23; refine (CT.out _ LW.out).mono ?_; rintro e w2 ⟨rfl, h2⟩; have B2 := Lib.hid h2; clear h2)
        go_ret2
        exact ⟨by rw [HV.out]; rfl, LW.out.trans (B2.out.mono LW.out.size)⟩
    · have f2 : (kd == (2 : Int)) = false := by simpa using e2
      by_cases e3 : kd = 3
      · subst e3
        have ht : mayC o.com = true := by
          rw [if_neg (by omega), if_neg (by omega), if_pos rfl] at hmay
          simp only [Bool.and_eq_true] at hmay
          exact hmay.2
        rw [commitPut_fit _ ht] at cC
        rw [if_neg (by omega), if_pos rfl] at hpo
        rw [hpo] at HV
        have CC := Lib.hid cC
        clear h hn hm hG hbb l0 k0 cM cT cC ic io hcs hcc hkd hq hmay ht hpo e2
        as_aux_lemma =>
          go_enter Tryz.func33, Tryz.ntmps33
          go_upto_region 1 with fail
          change Code.wp _ _ _ _ (W.alloc (.cells cs.toArray 64))
          rw [← hw0, ← hg]
          clear hw0 hg
          go_upto_region 3 with (first
            | (refine wpl_loadS rfl 64 (.tmp 1) rfl ⟨g, 0, none⟩ rfl cs Tryz.isAgg64 IO.out KO.out ?_)
            | (go_at_call 38; refine (CM.out _ LW0.out).mono ?_; rintro e w1 ⟨rfl, h1⟩; have B1 : Hid (Below w0.heap.size w0 w1) := Lib.hid h1; clear h1))
          obtain ⟨y0, y1, y2⟩ := KK.out _ B1.out
          have LW := Lib.hid (HW.out _ B1.out)
          have KC1 := Lib.hid (KC.out _ B1.out)
          clear KK
          go_wp2_with (first
            | (refine wpl_loadS rfl 34 (.tmp 18) rfl ⟨g, 3, none⟩ rfl cc Tryz.isAgg34 IC.out KC1.out ?_)
            | (go_at_call 18; refine (CC.out _ LW.out).mono ?_; rintro e w2 ⟨rfl, h2⟩; have B2 := Lib.hid h2; clear h2))
          go_ret2
          exact ⟨by rw [HV.out]; rfl, LW.out.trans (B2.out.mono LW.out.size)⟩
      · have f3 : (kd == (3 : Int)) = false := by simpa using e3
        rw [if_neg e2, if_neg e3] at hpo
        rw [hpo, ← hbb] at HV
        clear h hn hm hG hbb l0 k0 cM cT cC ic io hcs hcc hkd hq KC hmay hpo e2 e3
        as_aux_lemma =>
          go_enter Tryz.func33, Tryz.ntmps33
          go_upto_region 1 with fail
          change Code.wp _ _ _ _ (W.alloc (.cells cs.toArray 64))
          rw [← hw0, ← hg]
          clear hw0 hg
          go_upto_region 3 with (first
            | (refine wpl_loadS rfl 64 (.tmp 1) rfl ⟨g, 0, none⟩ rfl cs Tryz.isAgg64 IO.out KO.out ?_)
            | (go_at_call 38; refine (CM.out _ LW0.out).mono ?_; rintro e w1 ⟨rfl, h1⟩; have B1 : Hid (Below w0.heap.size w0 w1) := Lib.hid h1; clear h1))
          obtain ⟨y0, y1, y2⟩ := KK.out _ B1.out
          have LW := Lib.hid (HW.out _ B1.out)
          clear KK
          go_wp2
          go_ret2
          exact ⟨by rw [HV.out]; rfl, LW.out⟩
end Go.Proofs.YticcianbphljpaaGreatDoor
namespace Go.Proofs.YticcianbphljpaaGreatDoor
open Go.RowKit
theorem comAt_row {w : World} {B : Nat} {c : Com} {A : Option Addr} {n d : Nat} (h : RowQ w B 25 32 (.slice A n d) n (rowI c.ps)) (h64 : c.wh < 18446744073709551616) (hn : c.note.length ≤ 1048576) : ComAt w c A n d := by
  obtain ⟨Ax, dx, e, hcd, hcm⟩ := h.shape
  injection e with _ _ e
  subst e
  exact ⟨h.src (rowI_one _), hcd, hcm, h64, by simp only [maxLen]; omega⟩
theorem mayC_fit {c : Com} (h : mayC c = true) : c.ps.length ≤ 4 ∧ c.note.length ≤ 100 := by
  unfold mayC at h
  simp only [Bool.and_eq_true, decide_eq_true_eq] at h
  exact ⟨h.1.1.1, h.1.1.2⟩
theorem putCV_back {s : List UInt8} {c : Com} (h : getC s = some c) (x : ByteArray) (hx : s = x.data.toList) : putCV c = .tuple #[.string x, .bool true] := by
  obtain ⟨_, h1, h2⟩ := getC_iff.1 h
  have e : x = ⟨(commitB c).toArray⟩ := ba_ext (by rw [← hx, h2])
  unfold putCV
  rw [h1, e]
  rfl
theorem meas_step3 (k j : Nat) (h : j < k) : k - (intOf (.int .i64 ((j : Int) + 1))).toNat < k - (intOf (.int .i64 (j : Int))).toNat := by
  simp only [intOf]
  omega
/-- Two commits, in blocks of their own. -/
structure TwoC (W : World) (N g1 g2 : Nat) (c1 e1 : Com) (q1 q2 : Nat) (w : World) : Prop where
  ex : ∃ B2 d2 B3 d3, Blk w g1 34 (comL c1 B2 q1 d2) ∧ Blk w g2 34 (comL e1 B3 q2 d3) ∧ RowQ w N 25 32 (.slice B2 q1 d2) q1 (rowI c1.ps) ∧ RowQ w N 25 32 (.slice B3 q2 d3) q2 (rowI e1.ps)
  low : Below W.heap.size W w
theorem TwoC.laid {W w : World} {N g1 g2 : Nat} {c1 e1 : Com} {q1 q2 : Nat} {B2 B3 : Option Addr} {d2 d3 : Nat} {x y : List Value} (hx : Blk w g1 34 x) (hy : Blk w g2 34 y)
    (h2 : RowQ w N 25 32 (.slice B2 q1 d2) q1 (rowI c1.ps)) (h3 : RowQ w N 25 32 (.slice B3 q2 d3) q2 (rowI e1.ps)) (hl : Below W.heap.size W w) (hne : g1 ≠ g2) (hn1 : g1 < N) (hn2 : g2 < N) (hg1 : W.heap.size ≤ g1) (hg2 : W.heap.size ≤ g2) :
    TwoC W N g1 g2 c1 e1 q1 q2 ((w.setRow g1 (comL c1 B2 q1 d2).toArray).setRow g2 (comL e1 B3 q2 d3).toArray) := by
  have ne : ∀ {v : Value} {n : Nat} {xs : List Value} {g : Nat}, RowQ w N 25 32 v n xs → g < N → v.ownBlock ≠ some g := fun h hg e => by
    have := (h.lt _ e).1
    omega
  refine ⟨⟨B2, d2, B3, d3, (hx.row _).rowFar hne _, (hy.rowFar hne.symm _).row _, (h2.rowFar (ne h2 hn1) _).rowFar (ne h2 hn2) _, (h3.rowFar (ne h3 hn1) _).rowFar (ne h3 hn2) _⟩, below_setRow' (below_setRow' hl hg1 _) hg2 _⟩
/-- A call, as one step of a region that draws. -/
theorem step_callH {P : Program} {o : Oper} {ops : Array Oper} {a : Act} {w : World} {K : Act → World → Prop} {Q : Exit → Act → World → Prop} {E : Prop} (hgd : Region.wanted o (yielded ops a.tmps) = true) (f : FuncId) (args : Array Value) (h0 : (execOp a.eval o).run P w = .ok (.enter f args) w) (R : Value → World → Prop)
    (hc : Calls P f args w fun e w' => ∃ v, e = .returned v ∧ R v w') (h : ∀ v w', R v w' → K (a.put o.dst v) w') : if Region.wanted o (yielded ops a.tmps) = true then Oper.wp P o a w K Q else E := by
  rw [if_pos hgd]
  unfold Oper.wp
  rw [h0]
  exact hc.mono fun e w' ⟨v, he, hr⟩ => by subst he; exact h v w' hr
end Go.Proofs.YticcianbphljpaaGreatDoor
namespace Go.Proofs.YticcianbphljpaaGreatDoor
open Go.RowKit
set_option maxRecDepth 20000 in
set_option maxHeartbeats 6400000 in
theorem objId_any (W : World) (o : Obt) (A : Option Addr) (n k : Nat) (B : Option Addr) (m d : Nat) (h : ObAt W o A n k B m d) (hn : n ≤ 1099511627776) (hm : m ≤ 1099511627776) (hG : Gl W) :
    Calls Tryz.prog 37 #[.agg (objL o A n k B m d).toArray] W fun e W' => e = .returned (idOV o) ∧ Below W.heap.size W W' := by
  have zI := zI_eq
  have b0 := (Below.refl W.heap.size W).alloc (Nat.le_refl _) (.cells (objL o A n k B m d).toArray 64)
  have l0 := b0.alloc (by rw [hsz]; omega) (.cells zero32.toArray 25)
  have k0 := (ObBlk.of (Blk.new W 64 (objL o A n k B m d))).below ((Below.refl _ _).alloc (Nat.le_refl _) (.cells zero32.toArray 25))
  have z0 := Blk.new (W.alloc (.cells (objL o A n k B m d).toArray 64)) 25 zero32
  rw [hsz] at z0
  obtain ⟨w0, hw0⟩ : ∃ w0, w0 = (W.alloc (.cells (objL o A n k B m d).toArray 64)).alloc (.cells zero32.toArray 25) := ⟨_, rfl⟩
  rw [← hw0] at l0 k0 z0
  have HW : Hid (∀ w, Below w0.heap.size w0 w → Below W.heap.size W w) := Lib.hid fun w hw => l0.trans (hw.mono l0.size)
  have cP := objPut_any w0 o A n k B m d (h.below l0) hn hm (hG.below l0)
  unfold putOV at cP
  have io := infoO o A n k B m d
  have HG := Lib.hid hG
  have K0 := Lib.hid k0
  have Z0 := Lib.hid z0
  obtain ⟨g, hg⟩ : ∃ g, g = W.heap.size := ⟨_, rfl⟩
  obtain ⟨g2, hg2⟩ : ∃ g2, g2 = W.heap.size + 1 := ⟨_, rfl⟩
  have G2 : Hid (W.heap.size ≤ g2) := Lib.hid (by omega)
  rw [← hg] at K0
  rw [← hg2] at Z0
  obtain ⟨cs, hcs⟩ : ∃ cs, cs = objL o A n k B m d := ⟨_, rfl⟩
  rw [← hcs] at hw0 cP io ⊢
  have KO : Hid (∀ j v, cs[j]? = some v → w0.cell? ((⟨g, 0, none⟩ : Addr).add j) = some v) := Lib.hid fun j v hv => by rw [addr_row _ rfl, Nat.zero_add]; rw [hcs] at hv; exact K0.out.blk.cell j v hv
  have KK : Hid (∀ w, Below w0.heap.size w0 w → w.cell? ⟨g, 0, none⟩ = some (.int .i64 o.kd)) := Lib.hid fun w hw => (K0.out.below hw).kd
  have IO := Lib.hid io
  unfold idOV
  cases hq : mayO o
  · rw [hq] at cP
    have CP := Lib.hid cP
    clear h hn hm hG b0 l0 k0 z0 cP io hcs hq K0
    go_enter Tryz.func37, Tryz.ntmps37
    go_upto_region 1 with fail
    change Code.wp _ _ _ _ ((W.alloc (.cells cs.toArray 64)).alloc (.cells zero32.toArray 25))
    rw [← hw0, ← hg2, ← hg]
    clear hw0 hg hg2
    go_wp2_with (first
      | (refine wpl_loadS rfl 64 (.tmp 1) rfl ⟨g, 0, none⟩ rfl cs Tryz.isAgg64 IO.out KO.out ?_)
      | (go_at_call 33; refine CP.out.mono ?_; rintro e w1 ⟨rfl, h1⟩; have B1 := Lib.hid h1; have Z1 := Lib.hid (Z0.out.below h1); clear h1)
      | (refine wpl_build rfl 25 _ rfl zero32 (by kernel_rfl) ?_)
      | (refine wpl_store rfl 25 (.tmp 2) _ rfl g2 zero32 rfl rfl 25 zero32 Z1.out (by rw [Tryz.sizeId]; simp [zero32]) rfl (Bs_one _) ?_))
    refine bodyPost_ret (res_row2 rfl _ _ g2 25 zero32 32 5 rfl (Z1.out.row _) Tryz.underlying25 (by rw [Tryz.sizeId]; simp [zero32])) rfl ?_
    exact ⟨rfl, below_setRow' (HW.out _ B1.out) G2.out _⟩
  · obtain ⟨pb, hpb⟩ : ∃ pb : ByteArray, pb = ⟨(putO o).toArray⟩ := ⟨_, rfl⟩
    have hpz : pb.size ≤ 1099511627776 := by have := putO_size o h.com.bits hq; rw [hpb, ba_size]; show (putO o).length ≤ _; omega
    have cO : ∀ w, Below w0.heap.size w0 w → Calls Tryz.prog 72 #[.int .i64 o.kd, .string pb] w fun e w' => e = .returned (.agg (Bs (sha256 (ofL o.kd (putO o)))).toArray) ∧ Below w.heap.size w w' := fun w hw => by
      have := of_any w o.kd pb hpz (HG.out.below (HW.out w hw))
      have e : pb.data.toList = putO o := by rw [hpb]
      rwa [e] at this
    rw [hq] at cP
    simp only [cond_true] at cP
    rw [← hpb] at cP
    have sl : (Bs (sha256 (ofL o.kd (putO o)))).length = 32 := by simp
    have so := Bs_one (sha256 (ofL o.kd (putO o)))
    generalize Bs (sha256 (ofL o.kd (putO o))) = sv at cO sl so ⊢
    generalize o.kd = kd at cO KK
    have CP := Lib.hid cP
    have CO := Lib.hid cO
    have SL := Lib.hid sl
    have SO := Lib.hid so
    clear h hn hm hG b0 l0 k0 z0 cP io hcs hq K0 hpb hpz cO sl so
    go_enter Tryz.func37, Tryz.ntmps37
    go_upto_region 1 with fail
    change Code.wp _ _ _ _ ((W.alloc (.cells cs.toArray 64)).alloc (.cells zero32.toArray 25))
    rw [← hw0, ← hg2, ← hg]
    clear hw0 hg hg2
    go_wp2_with (first
      | (refine wpl_loadS rfl 64 (.tmp 1) rfl ⟨g, 0, none⟩ rfl cs Tryz.isAgg64 IO.out KO.out ?_)
      | (go_at_call 33; refine CP.out.mono ?_; rintro e w1 ⟨rfl, h1⟩; have B1 := Lib.hid h1; have Z1 := Lib.hid (Z0.out.below h1); have y0 := KK.out _ h1; clear h1)
      | (go_at_call 72; refine (CO.out _ B1.out).mono ?_; rintro e w2 ⟨rfl, h2⟩; have B2 := Lib.hid (B1.out.trans (h2.mono B1.out.size)); have Z2 := Lib.hid (Z1.out.below h2); clear h2)
      | (refine wpl_store rfl 25 (.tmp 2) _ rfl g2 sv rfl rfl 25 zero32 Z2.out (by rw [Tryz.sizeId, SL.out]) (by rw [SL.out]; simp [zero32]) SO.out ?_))
    refine bodyPost_ret (res_row2 rfl _ _ g2 25 sv 32 5 rfl (Z2.out.row _) Tryz.underlying25 (by rw [Tryz.sizeId, SL.out])) rfl ?_
    exact ⟨rfl, below_setRow' (HW.out _ B2.out) G2.out _⟩
end Go.Proofs.YticcianbphljpaaGreatDoor
