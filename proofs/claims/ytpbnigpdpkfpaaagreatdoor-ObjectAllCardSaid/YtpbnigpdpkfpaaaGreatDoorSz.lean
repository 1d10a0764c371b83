/- when.Size: limits. -/
import Derived.Test.YtpbnigpdpkfpaaaGreatDoorP3x
import Derived.Test.YtpbnigpdpkfpaaaGreatDoorF
import Derived.Deep.DeepCutAuto
import Derived.Deep.CutBlock
import Derived.Laws.RangeString
import Derived.Deep.LoopGhost
namespace Go.Proofs.YtpbnigpdpkfpaaaGreatDoor
open Go.RowKit
/-- A number in base 10. -/
def decv (l : List UInt8) : Nat := (Lib.decFrom 0 l).getD 0
theorem decFrom_digs (l : List UInt8) : ∀ acc, l.all isdig = true → ∃ n, Lib.decFrom acc l = some n ∧ n + 1 ≤ (acc + 1) * 10 ^ l.length := by
  induction l with
  | nil => intro acc _; exact ⟨acc, rfl, by simp⟩
  | cons c l ih =>
    intro acc h
    rw [List.all_cons, Bool.and_eq_true] at h
    have hc := h.1
    unfold isdig at hc
    simp only [Bool.and_eq_true, decide_eq_true_eq] at hc
    have hd : Lib.digitVal c = some (c.toNat - 48) := by unfold Lib.digitVal; rw [if_pos hc]
    obtain ⟨n, h1, h2⟩ := ih (acc * 10 + (c.toNat - 48)) h.2
    refine ⟨n, by rw [Lib.decFrom, hd]; exact h1, Nat.le_trans h2 ?_⟩
    rw [List.length_cons, Nat.pow_succ, Nat.mul_comm (10 ^ l.length), ← Nat.mul_assoc]
    exact Nat.mul_le_mul_right _ (by omega)
theorem atoi_digs (l : List UInt8) (h : l.all isdig = true) (h1 : 1 ≤ l.length) : Lib.atoi l = some (decv l : Int) := by
  obtain ⟨n, hn, _⟩ := decFrom_digs l 0 h
  cases l with
  | nil => simp at h1
  | cons c l =>
    rw [List.all_cons, Bool.and_eq_true] at h
    have hc := h.1
    unfold isdig at hc
    simp only [Bool.and_eq_true, decide_eq_true_eq] at hc
    have e1 : (c == 45) = false := by
      rw [beq_eq_false_iff_ne]; intro e; subst e; simp at hc
    have e2 : (c == 43) = false := by
      rw [beq_eq_false_iff_ne]; intro e; subst e; simp at hc
    unfold Lib.atoi
    simp only [e1, e2, Bool.false_eq_true, if_false]
    unfold Lib.decNat decv
    simp [hn]
theorem decv_lt (l : List UInt8) (h : l.all isdig = true) (h9 : l.length ≤ 9) : decv l < 1000000000 := by
  obtain ⟨n, hn, h2⟩ := decFrom_digs l 0 h
  unfold decv
  rw [hn]
  have h3 : (0 + 1) * 10 ^ l.length ≤ (0 + 1) * 10 ^ 9 := Nat.mul_le_mul_left _ (Nat.pow_le_pow_right (by omega) h9)
  simp only [Option.getD_some]
  omega
/-- What stands ahead of the letter; what the letter multiplies by. -/
def szSuf (l : List UInt8) : List UInt8 × Nat :=
  if Lib.hasSuffix l [107] then (Lib.trimSuffix l [107], 4652218415073722368) else if Lib.hasSuffix l [109] then (Lib.trimSuffix l [109], 4697254411347427328) else (l, 4607182418800017408)
def szOk (w r : List UInt8) (p : Bool) : Bool := digs w 6 && !(decide (1 < w.length) && w.headD 0 == 48) && (!p || digs r 3)
def szR (w r : List UInt8) (p : Bool) (t : Nat) : Nat × Bool := if szOk w r p then (fmul (fdiv (floatOfInt .f64 (decv (w ++ r) : Int)) (f10 r.length)) t, true) else (0, false)
def sizeR (l : List UInt8) : Nat × Bool := szR (Lib.cut (szSuf l).1 [46]).1 (Lib.cut (szSuf l).1 [46]).2.1 (Lib.cut (szSuf l).1 [46]).2.2 (szSuf l).2
theorem trimSuffix_le (l p : List UInt8) : (Lib.trimSuffix l p).length ≤ l.length := by
  unfold Lib.trimSuffix
  split
  · exact List.length_take_le' _ _
  · exact Nat.le_refl _
theorem cut_le1 (l p : List UInt8) : (Lib.cut l p).1.length ≤ l.length := by
  unfold Lib.cut
  split
  · exact List.length_take_le' _ _
  · exact Nat.le_refl _
theorem cut_le2 (l p : List UInt8) : (Lib.cut l p).2.1.length ≤ l.length := by
  unfold Lib.cut
  split
  · simp
  · simp
theorem cut_none (l p : List UInt8) (h : (Lib.cut l p).2.2 = false) : (Lib.cut l p).2.1 = [] := by
  unfold Lib.cut at h ⊢
  split at h
  · cases h
  · rename_i hn; rw [if_neg hn]
theorem digs_iff {l : List UInt8} {k : Nat} (h : digs l k = true) : 1 ≤ l.length ∧ l.length ≤ k ∧ l.all isdig = true := by
  unfold digs at h
  simp only [Bool.and_eq_true, decide_eq_true_eq] at h
  exact ⟨h.1.1, h.1.2, h.2⟩
theorem head_eq (w : ByteArray) (h : 0 < w.size) : (w[0]'h) = w.data.toList.headD 0 := by
  obtain ⟨⟨l⟩⟩ := w
  cases l with
  | nil => exact absurd h (by simp [ByteArray.size])
  | cons c l => rfl
theorem szOk_iff {w r : List UInt8} {p : Bool} (h : szOk w r p = true) (hp : p = false → r = []) : (1 ≤ w.length ∧ w.length ≤ 6) ∧ w.all isdig = true ∧ r.length ≤ 3 ∧ r.all isdig = true := by
  unfold szOk at h
  simp only [Bool.and_eq_true] at h
  obtain ⟨⟨h1, _⟩, h3⟩ := h
  obtain ⟨a1, a2, a3⟩ := digs_iff h1
  refine ⟨⟨a1, a2⟩, a3, ?_⟩
  cases p
  · rw [hp rfl]; exact ⟨by simp, rfl⟩
  · obtain ⟨_, b2, b3⟩ := digs_iff (by simpa using h3)
    exact ⟨b2, b3⟩
theorem asc_of {r : ByteArray} (h : r.data.toList.all isdig = true) {j : Nat} (hj : j < r.size) : (r[j]'hj).toNat < 128 := by
  have hm : r[j]'hj ∈ r.data.toList := by
    have : r[j]'hj = r.data.toList[j]'(by rw [← ba_size]; exact hj) := rfl
    rw [this]; exact List.getElem_mem _
  have := List.all_eq_true.1 h _ hm
  unfold isdig at this
  simp only [Bool.and_eq_true, decide_eq_true_eq] at this
  omega
theorem below_bytes (w : World) (e : TypeId) (s : ByteArray) : Below w.heap.size w (Lib.bytesWorld w e s) :=
  ⟨rfl, rfl, rfl, by rw [Lib.bytesWorld_size]; omega, fun k hk => Lib.bytesWorld_at_old w e s k hk⟩
def tOk (t : Nat) : Prop := t = 4652218415073722368 ∨ t = 4697254411347427328 ∨ t = 4607182418800017408
theorem tOk_read {t : Nat} (h : tOk t) : ∃ n m e, Ieee.double.read t = .number n m e ∧ m ≠ 0 := by
  rcases h with rfl | rfl | rfl
  · exact kk_read
  · exact km_read
  · exact k1_read
section
variable {P : Program} {ops : Array Oper} {rest : List Oper} {o : Oper} {a : Act} {w : World} {Q : Exit → Act → World → Prop}
theorem wpl_next (hgd : o.guard = none) (x : Operand) (b : Bool) (ho : o.op = .next x b) (v : Value) (w1 : World) (h0 : (Instr.next (a.eval x) b o.type).run P w = .ok v w1)
    (h : wpList P ops Q rest (a.put o.dst v) w1) : wpList P ops Q (o :: rest) a w := by
  refine wpList_plain hgd fun K hK => ?_
  unfold Oper.wp execOp
  simp only [ho, Sem.run_bind, Sem.run_pure, Result.andThen_ok, h0]
  exact hK _ _ h
end
def SufIn (W : World) (l : List UInt8) (v t : Value) (w : World) : Prop := ∃ s : ByteArray, ∃ b : Nat, v = .string s ∧ t = .float .f64 b ∧ s.data.toList = (szSuf l).1 ∧ b = (szSuf l).2 ∧ s.size ≤ 4294967280 ∧ W = w
set_option maxRecDepth 100000 in
set_option maxHeartbeats 1000000 in
theorem size_any (W : World) (s : ByteArray) (hs : s.size ≤ 4294967280) (hG : Gl W) : Calls Tryz.prog 177 #[.string s] W fun e W' => e = .returned (.tuple #[.float .f64 (sizeR s.data.toList).1, .bool (sizeR s.data.toList).2]) ∧ Below W.heap.size W W' := by
  obtain ⟨l, hl⟩ : ∃ l, l = s.data.toList := ⟨_, rfl⟩
  rw [← hl]
  have ck := fun w => Tryz.strings_CutSuffix s ⟨#[107]⟩ w (by omega)
  have cm := fun w => Tryz.strings_CutSuffix s ⟨#[109]⟩ w (by omega)
  rw [← hl] at ck cm
  obtain ⟨u1, hu1⟩ : ∃ u : ByteArray, u = ⟨(Lib.trimSuffix l [107]).toArray⟩ := ⟨_, rfl⟩
  obtain ⟨u2, hu2⟩ : ∃ u : ByteArray, u = ⟨(Lib.trimSuffix l [109]).toArray⟩ := ⟨_, rfl⟩
  obtain ⟨b1, hb1⟩ : ∃ b, b = Lib.hasSuffix l [107] := ⟨_, rfl⟩
  obtain ⟨b2, hb2⟩ : ∃ b, b = Lib.hasSuffix l [109] := ⟨_, rfl⟩
  have ck2 : ∀ w, Calls Tryz.prog 218 #[.string s, .string ⟨#[107]⟩] w fun e w' => e = .returned (.tuple #[.string u1, .bool b1]) ∧ w = w' := by intro w; rw [hu1, hb1]; exact (ck w).mono fun _ _ h => ⟨h.1, h.2.symm⟩
  have cm2 : ∀ w, Calls Tryz.prog 218 #[.string s, .string ⟨#[109]⟩] w fun e w' => e = .returned (.tuple #[.string u2, .bool b2]) ∧ w = w' := by intro w; rw [hu2, hb2]; exact (cm w).mono fun _ _ h => ⟨h.1, h.2.symm⟩
  have hG' := Lib.hid hG
  have HL := Lib.hid hl
  have U1 := Lib.hid hu1
  have U2 := Lib.hid hu2
  have B1 := Lib.hid hb1
  have B2 := Lib.hid hb2
  clear ck cm hl hu1 hu2 hb1 hb2 hG
  go_enter Tryz.func177, Tryz.ntmps177
  go_upto_if 20 with (go_at_call 218; refine (ck2 _).mono ?_; rintro e w' ⟨rfl, rfl⟩)
  go_cut [0, 4] (fun v t w => SufIn W l v t w)
  case first =>
    cases b1
    · cases b2
      · go_wp2_with (go_at_call 218; refine (cm2 _).mono ?_; rintro e w' ⟨rfl, rfl⟩)
        go_meet
        exact ⟨s, _, rfl, rfl, by unfold szSuf; rw [← B1.out, ← B2.out]; simp [HL.out], by unfold szSuf; rw [← B1.out, ← B2.out]; rfl, hs, rfl⟩
      · go_wp2_with (go_at_call 218; refine (cm2 _).mono ?_; rintro e w' ⟨rfl, rfl⟩)
        go_meet
        exact ⟨u2, _, rfl, rfl, by unfold szSuf; rw [← B1.out, ← B2.out, U2.out]; rfl, by unfold szSuf; rw [← B1.out, ← B2.out]; rfl, by rw [ba_size, U2.out]; exact Nat.le_trans (trimSuffix_le _ _) (by rw [HL.out, ← ba_size]; exact hs), rfl⟩
    · go_wp2_with (go_at_call 218; refine (cm2 _).mono ?_; rintro e w' ⟨rfl, rfl⟩)
      go_meet
      exact ⟨u1, _, rfl, rfl, by unfold szSuf; rw [← B1.out, U1.out]; rfl, by unfold szSuf; rw [← B1.out]; rfl, by rw [ba_size, U1.out]; exact Nat.le_trans (trimSuffix_le _ _) (by rw [HL.out, ← ba_size]; exact hs), rfl⟩
  case rest =>
    obtain ⟨s1, tb, rfl, rfl, hs1, htb, hs2, rfl⟩ := hcut
    clear ck2 cm2 U1 U2 B1 B2
    have htk : tOk tb := by
      rw [htb]; unfold szSuf tOk
      split
      · exact .inl rfl
      · split
        · exact .inr (.inl rfl)
        · exact .inr (.inr rfl)
    obtain ⟨m, hm⟩ := hG'.out.mlen
    have hcut := Tryz.strings_Cut s1 ⟨#[46]⟩ m W (by omega) hm
    rw [hs1] at hcut
    obtain ⟨w, hw⟩ : ∃ w : ByteArray, w = ⟨(Lib.cut (szSuf l).1 [46]).1.toArray⟩ := ⟨_, rfl⟩
    obtain ⟨r, hr⟩ : ∃ r : ByteArray, r = ⟨(Lib.cut (szSuf l).1 [46]).2.1.toArray⟩ := ⟨_, rfl⟩
    obtain ⟨p, hp⟩ : ∃ p, p = (Lib.cut (szSuf l).1 [46]).2.2 := ⟨_, rfl⟩
    have hcut2 : Calls Tryz.prog 113 #[.string s1, .string ⟨#[46]⟩] W fun e w' => e = .returned (.tuple #[.string w, .string r, .bool p]) ∧ ∃ n, w' = W.drewN n := by rw [hw, hr, hp]; exact hcut
    have hR : sizeR l = szR w.data.toList r.data.toList p tb := by unfold sizeR; rw [hw, hr, hp, htb]
    have hws : w.size ≤ 4294967280 := by
      rw [ba_size, hw]; exact Nat.le_trans (cut_le1 _ _) (by rw [← hs1, ← ba_size]; exact hs2)
    have hrs : r.size ≤ 4294967280 := by
      rw [ba_size, hr]; exact Nat.le_trans (cut_le2 _ _) (by rw [← hs1, ← ba_size]; exact hs2)
    have hpr : p = false → r.data.toList = [] := by rw [hp, hr]; exact cut_none _ _
    have HC := Lib.hid hcut2
    have HR := Lib.hid hR
    clear hcut hcut2 hm hG' hw hr hp hR hs1 htb hs2 hs HL
    have cd6 : ∀ V, Calls Tryz.prog 219 #[.string w, .int .i64 6] V fun e V' => e = .returned (.bool (digs w.data.toList 6)) ∧ Below V.heap.size V V' := fun V => digits_any V w 6 (by omega) (by omega)
    have cd3 : ∀ V, Calls Tryz.prog 219 #[.string r, .int .i64 3] V fun e V' => e = .returned (.bool (digs r.data.toList 3)) ∧ Below V.heap.size V V' := fun V => digits_any V r 3 (by omega) (by omega)
    go_upto_region 9 with (go_at_call 113; refine HC.out.mono ?_; rintro e w' ⟨rfl, nc, rfl⟩)
    go_cut [55] (fun c wr => c = .bool (!(szOk w.data.toList r.data.toList p)) ∧ Below W.heap.size W wr)
    case first =>
      cases hdw : digs w.data.toList 6
      · clear hpr
        go_wp2_with (first | (go_at_call 219; (with_reducible refine (cd6 _).mono ?_); rintro e w' ⟨he, hb⟩; rw [hdw] at he; subst he; have B1 := Lib.hid hb; clear hb))
        go_meet
        exact ⟨by unfold szOk; rw [hdw]; rfl, (below_drewN' (Below.refl _ _) _).trans B1.out⟩
      · obtain ⟨d1, d6, d10⟩ := digs_iff hdw
        rw [← ba_size] at d1 d6
        have D10 := Lib.hid d10
        clear d10
        by_cases hlead : 1 < w.size ∧ w.data.toList.headD 0 = 48
        · have l1 : (1 : Int) < (w.size : Int) := by omega
          have hws0 : 0 < w.size := by omega
          have hw0 : ((w[0]'hws0).toNat : Int) = 48 := by rw [head_eq w hws0, hlead.2]; rfl
          have HLEAD := Lib.hid hlead
          have HZ := Lib.hid (ba_size w)
          clear hlead hpr d1 d6
          go_wp2_with (first | (go_at_call 219; (with_reducible refine (cd6 _).mono ?_); rintro e w' ⟨he, hb⟩; rw [hdw] at he; subst he; have B1 := Lib.hid hb; clear hb))
          go_meet
          exact ⟨by unfold szOk; rw [hdw, HLEAD.out.2]; simp [← HZ.out, HLEAD.out.1], (below_drewN' (Below.refl _ _) _).trans B1.out⟩
        · have hd2 : (decide (1 < w.data.toList.length) && w.data.toList.headD 0 == 48) = false := by
            rw [← ba_size]
            cases h1 : decide (1 < w.size)
            · rfl
            · simp only [decide_eq_true_eq] at h1
              simp only [Bool.true_and, beq_eq_false_iff_ne]
              intro e
              exact hlead ⟨h1, e⟩
          have HD2 := Lib.hid hd2
          clear hd2
          have hp2 : True := trivial
          by_cases hsz : 1 < w.size
          · have l1 : (1 : Int) < (w.size : Int) := by omega
            have hws0 : 0 < w.size := by omega
            have hw0 : (((w[0]'hws0).toNat : Int) == 48) = false := by
              rw [head_eq w hws0, beq_eq_false_iff_ne]
              intro e
              refine hlead ⟨hsz, UInt8.toNat_inj.1 ?_⟩
              have : (UInt8.toNat 48) = 48 := rfl
              omega
            clear hlead
            cases p
            · clear hpr d1 d6 hp2
              go_wp2_with (first | (go_at_call 219; (with_reducible refine (cd6 _).mono ?_); rintro e w' ⟨he, hb⟩; rw [hdw] at he; subst he; have B1 := Lib.hid hb; clear hb))
              go_meet
              exact ⟨by unfold szOk; rw [hdw, HD2.out]; rfl, (below_drewN' (Below.refl _ _) _).trans B1.out⟩
            · cases hdr : digs r.data.toList 3
              · clear hpr d1 d6 hp2
                go_wp2_with (first | (go_at_call 219; (with_reducible refine (cd6 _).mono ?_); rintro e w' ⟨he, hb⟩; rw [hdw] at he; subst he; have B1 := Lib.hid hb; clear hb) | (go_at_call 219; (with_reducible refine (cd3 _).mono ?_); rintro e w2 ⟨he, hb⟩; rw [hdr] at he; subst he; have B2 := Lib.hid hb; clear hb))
                go_meet
                exact ⟨by unfold szOk; rw [hdw, HD2.out, hdr]; rfl, ((below_drewN' (Below.refl _ _) _).trans B1.out).trans (B2.out.mono (B1.out.size))⟩
              · clear hpr d1 d6 hp2
                go_wp2_with (first | (go_at_call 219; (with_reducible refine (cd6 _).mono ?_); rintro e w' ⟨he, hb⟩; rw [hdw] at he; subst he; have B1 := Lib.hid hb; clear hb) | (go_at_call 219; (with_reducible refine (cd3 _).mono ?_); rintro e w2 ⟨he, hb⟩; rw [hdr] at he; subst he; have B2 := Lib.hid hb; clear hb))
                go_meet
                exact ⟨by unfold szOk; rw [hdw, HD2.out, hdr]; rfl, ((below_drewN' (Below.refl _ _) _).trans B1.out).trans (B2.out.mono (B1.out.size))⟩
          · have l1 : ¬ (1 : Int) < (w.size : Int) := by omega
            have l2 : decide ((1 : Int) < (w.size : Int)) = false := decide_eq_false l1
            clear hlead l1 hsz
            cases p
            · clear hpr d1 d6 hp2
              go_wp2_with (first | (go_at_call 219; (with_reducible refine (cd6 _).mono ?_); rintro e w' ⟨he, hb⟩; rw [hdw] at he; subst he; have B1 := Lib.hid hb; clear hb))
              go_meet
              exact ⟨by unfold szOk; rw [hdw, HD2.out]; rfl, (below_drewN' (Below.refl _ _) _).trans B1.out⟩
            · cases hdr : digs r.data.toList 3
              · clear hpr d1 d6 hp2
                go_wp2_with (first | (go_at_call 219; (with_reducible refine (cd6 _).mono ?_); rintro e w' ⟨he, hb⟩; rw [hdw] at he; subst he; have B1 := Lib.hid hb; clear hb) | (go_at_call 219; (with_reducible refine (cd3 _).mono ?_); rintro e w2 ⟨he, hb⟩; rw [hdr] at he; subst he; have B2 := Lib.hid hb; clear hb))
                go_meet
                exact ⟨by unfold szOk; rw [hdw, HD2.out, hdr]; rfl, ((below_drewN' (Below.refl _ _) _).trans B1.out).trans (B2.out.mono (B1.out.size))⟩
              · clear hpr d1 d6 hp2
                go_wp2_with (first | (go_at_call 219; (with_reducible refine (cd6 _).mono ?_); rintro e w' ⟨he, hb⟩; rw [hdw] at he; subst he; have B1 := Lib.hid hb; clear hb) | (go_at_call 219; (with_reducible refine (cd3 _).mono ?_); rintro e w2 ⟨he, hb⟩; rw [hdr] at he; subst he; have B2 := Lib.hid hb; clear hb))
                go_meet
                exact ⟨by unfold szOk; rw [hdw, HD2.out, hdr]; rfl, ((below_drewN' (Below.refl _ _) _).trans B1.out).trans (B2.out.mono (B1.out.size))⟩
    case rest =>
      obtain ⟨rfl, hb⟩ := hcut
      have HB := Lib.hid hb
      clear hb cd6 cd3
      cases hok : szOk w.data.toList r.data.toList p
      · go_wp2
        go_ret2
        exact ⟨by rw [HR.out]; unfold szR; rw [hok]; rfl, HB.out⟩
      · obtain ⟨k1, k2, k3, k4⟩ := szOk_iff hok hpr
        obtain ⟨z, hz⟩ : ∃ z : ByteArray, w ++ r = z := ⟨_, rfl⟩
        have hzl : z.data.toList = w.data.toList ++ r.data.toList := by rw [← hz, ba_append]
        have hzd : z.data.toList.all isdig = true := by rw [hzl, List.all_append, k2, k4]; rfl
        have hz9 : z.size ≤ 9 := by rw [ba_size, hzl, List.length_append]; omega
        have hz1 : 1 ≤ z.data.toList.length := by rw [hzl, List.length_append]; omega
        have hdv := decv_lt z.data.toList hzd (by rw [← ba_size]; exact hz9)
        have cat : ∀ V, Calls Tryz.prog 220 #[.string z] V fun e V' => e = .returned (.tuple #[.int .i64 (decv z.data.toList), .nilIface]) ∧ Below V.heap.size V V' := fun V =>
          (Tryz.strconv_Atoi z _ (by omega) (atoi_digs _ hzd hz1) V).mono fun e V' h => ⟨h.1, by obtain ⟨t, ht⟩ := h.2; rw [ht]; exact below_bytes V _ _⟩
        obtain ⟨q, hq⟩ : ∃ q, q = decv z.data.toList := ⟨_, rfl⟩
        rw [← hq] at cat hdv
        have hr3 : r.size ≤ 3 := by rw [ba_size]; exact k3
        have hasc : ∀ j (h : j < r.size), (r[j]'h).toNat < 128 := fun j h => asc_of k4 h
        have hw6 : w.size ≤ 6 := by rw [ba_size]; exact k1.2
        have HZ := Lib.hid hz
        have HQ := Lib.hid hq
        have HZL := Lib.hid hzl
        have HA := Lib.hid hasc
        have K4 := Lib.hid k4
        have HOK := Lib.hid hok
        clear k1 k2 k3 k4 hok hpr hz hzl hzd hz1 hq hasc hdv
        go_wp2_with (go_at_call 220; (rw [HZ.out]); refine (cat _).mono ?_; rintro e w3 ⟨rfl, hb⟩; have B3 := Lib.hid hb; clear hb)
        go_loopg [14] r.size (fun k v wr => ∃ j, j + k = r.size ∧ v = .float .f64 (f10 j) ∧ wr = w3.iter r j)
        case atStart => exact ⟨0, by omega, rfl, rfl⟩
        case round =>
          obtain ⟨j, hj, rfl, rfl⟩ := hrel
          by_cases hlt : j < r.size
          · have hnx := run_next_ascii (P := Tryz.prog) w3 r j 0 hlt (HA.out j hlt)
            have hfm := fun V => run_float_arith (P := Tryz.prog) V .mul 26 .f64 (f10 j) 4621819117588971520 (f10 (j + 1)) (f10_succ j (by omega))
            have HJ := Lib.hid hj
            clear hj
            go_wp2_with (refine wpl_next rfl _ _ rfl _ _ hnx ?_)
            go_roundg (gk - 1)
            case measure => have := HJ.out; omega
            case rel => exact ⟨j + 1, by have := HJ.out; omega, rfl, rfl⟩
          · have hj2 : j = r.size := by omega
            have hnx := run_next_end (P := Tryz.prog) w3 r j 0 hlt
            obtain ⟨n1, m1, e1, hr1, hm1⟩ := f10_read j (by omega)
            obtain ⟨y, hy, hyn⟩ := div_num (ofInt_num (q : Int)) n1 m1 e1 hr1 hm1
            have hfq := fun V => run_float_arith (P := Tryz.prog) V .quo 26 .f64 (floatOfInt .f64 (q : Int)) (f10 j) (fdiv (floatOfInt .f64 (q : Int)) (f10 j)) (fdiv_bits hy)
            have hyf : fdiv (floatOfInt .f64 (q : Int)) (f10 j) = y := by unfold fdiv; rw [hy]; rfl
            obtain ⟨n2, m2, e2, hr2, hm2⟩ := tOk_read htk
            obtain ⟨x, hx, hxn⟩ := mul_num hyn n2 m2 e2 hr2 hm2
            rw [← hyf] at hx
            have hfm := fun V => run_float_arith (P := Tryz.prog) V .mul 26 .f64 (fdiv (floatOfInt .f64 (q : Int)) (f10 j)) tb (fmul (fdiv (floatOfInt .f64 (q : Int)) (f10 j)) tb) (fmul_bits hx)
            have hci := fun V => run_convert_int_float (P := Tryz.prog) V 3 26 .i64 .f64 (q : Int) rfl (by kernel_rfl)
            have HJ2 := Lib.hid hj2
            clear hj hj2 hr1 hy hyf hr2 hx hlt
            go_wp2_with (refine wpl_next rfl _ _ rfl _ _ hnx ?_)
            go_ret2
            refine ⟨?_, (HB.out.trans (B3.out.mono HB.out.size)).trans (((Below.refl _ w3).alloc (Nat.le_refl _) _).mono (Nat.le_trans HB.out.size B3.out.size))⟩
            rw [HR.out]
            unfold szR
            rw [HOK.out, ← HZL.out, ← HQ.out, ← ba_size, ← HJ2.out]
            rfl
end Go.Proofs.YtpbnigpdpkfpaaaGreatDoor
