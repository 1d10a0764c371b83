/- slices.Compact at elements of k cells: what the row holds behind it. (Turned out of the library's worked text at elements of one cell.) -/
import Derived.Shelf.SlBodiesN
import Derived.Shelf.SlicesE.Kit
import Derived.Shelf.SlicesE.Equal
import Derived.Shelf.SlicesQ.Reverse
import Derived.Shelf.RegionOpenPlain
import Derived.Lib.SlicesCompact
import Derived.Shelf.GgSortFunc.RowK
import Derived.Shelf.SlSortFuncK.RowK2
import Derived.Lib.SliceRun
namespace Go.Proofs.YtpbnigpdpkfpaaaGreatDoor
open Go.Shelf Go.RowKit Go.Lib Go.Sort
section
variable {α : Type} [Inhabited α] [DecidableEq α]
omit [DecidableEq α] in
theorem setMany_set (enc : α → List Value) (k : Nat) (hk : ∀ x, (enc x).length = k) (d : Array α) (i : Nat) (x : α) (hi : i < d.size) : setMany (flatK enc k d) (i * k) (enc x) = flatK enc k (d.setIfInBounds i x) := by
  refine ext_get! (by simp) fun t ht => ?_
  have ht' : t < d.size * k := by simpa using ht
  have k0 : 0 < k := by rcases Nat.eq_zero_or_pos k with h | h
                        · subst h; simp at ht'
                        · exact h
  rw [get_setMany _ _ _ t (by simpa using ht'), get_flatK _ _ _ t ht', get_flatK _ _ _ t (by simpa using ht'), hk]
  by_cases a : t / k = i
  · rw [if_pos ((blk_iff k i t k0).2 a)]
    have m : t - i * k = t % k := by subst a; rw [Nat.mod_eq_sub_div_mul]
    rw [m, a, getElem!_set_same d i x hi]
  · rw [if_neg (fun h => a ((blk_iff k i t k0).1 h)), getElem!_set_other d i (t / k) x a]
omit [DecidableEq α] in
theorem lay_get! (d : Array α) (k n j : Nat) (z : α) (h : k + n ≤ d.size) : (lay d k (List.replicate n z))[j]! = if k ≤ j ∧ j < k + n then z else d[j]! := by
  have := lay_get? (List.replicate n z) d k j (by simpa using h)
  rw [List.length_replicate] at this
  rw [Array.getElem!_eq_getD, Array.getD_eq_getD_getElem?, this]
  by_cases c : k ≤ j ∧ j < k + n
  · rw [if_pos c, if_pos c, List.getElem?_replicate, if_pos (by omega)]; rfl
  · rw [if_neg c, if_neg c, Array.getElem!_eq_getD, Array.getD_eq_getD_getElem?]
omit [DecidableEq α] [Inhabited α] in
theorem lay_size : ∀ (xs : List α) (d : Array α) (k : Nat), (lay d k xs).size = d.size
  | [], d, k => rfl
  | x :: r, d, k => by rw [lay, lay_size r]; simp
omit [DecidableEq α] in
theorem setMany_lay (enc : α → List Value) (k : Nat) (hk : ∀ x, (enc x).length = k) (d : Array α) (i n : Nat) (z : α) (h : i + n ≤ d.size) :
    setMany (flatK enc k d) (i * k) (Builtin.zeroCells (enc z).toArray n).toList = flatK enc k (lay d i (List.replicate n z)) := by
  have hL : (Builtin.zeroCells (enc z).toArray n).toList.length = n * k := by simp [Builtin.zeroCells, hk]
  refine ext_get! (by simp [lay_size]) fun t ht => ?_
  have ht' : t < d.size * k := by simpa using ht
  have k0 : 0 < k := by rcases Nat.eq_zero_or_pos k with h | h
                        · subst h; simp at ht'
                        · exact h
  rw [get_setMany _ _ _ t (by simpa using ht'), hL, get_flatK _ _ _ t ht', get_flatK _ _ _ t (by rw [lay_size]; exact ht'), lay_get! d i n (t / k) z h]
  have hd := Nat.div_mul_le_self t k
  have hd2 := Nat.lt_mul_div_succ t k0
  have key : (i * k ≤ t ∧ t < i * k + n * k) ↔ (i ≤ t / k ∧ t / k < i + n) := by
    rw [← Nat.add_mul, Nat.le_div_iff_mul_le k0, Nat.div_lt_iff_lt_mul k0]
  by_cases c : i ≤ t / k ∧ t / k < i + n
  · rw [if_pos (key.2 c), if_pos c]
    have hlt : t - i * k < n * k := by have := (key.2 c); omega
    have hm : (t - i * k) % k = t % k := by
      rw [Nat.mul_comm, Nat.sub_mul_mod]
      rw [Nat.mul_comm]; exact (key.2 c).1
    simp only [Builtin.zeroCells, List.size_toArray, hk]
    rw [getElem!_pos _ (t - i * k) (by simpa using hlt)]
    simp [hm]
  · rw [if_neg (fun h => c (key.1 h)), if_neg c]
end
/-- What is asked of the program: the text, its types. -/
structure CoLays (P : Program) (ρ : Ren) : Prop where
  mixed : P.follows .mixedOrders = true
  f43 : Bears P (ρ.f 43) (SlBodyN.n43 ρ)
  t0 : P.underlying (ρ.t 0) = some (TypeDesc.tuple #[])
  a0 : ∀ w, (isAgg (ρ.t 0)).run P w = .ok false w
  z0 : ∀ w, (Go.sizeOf (ρ.t 0)).run P w = .ok 1 w
  v0 : ∀ w, (zeroValue (ρ.t 0)).run P w = .ok (Value.tuple #[]) w
  t3 : P.underlying (ρ.t 3) = some (TypeDesc.int IntKind.i64)
  a3 : ∀ w, (isAgg (ρ.t 3)).run P w = .ok false w
  z3 : ∀ w, (Go.sizeOf (ρ.t 3)).run P w = .ok 1 w
  v3 : ∀ w, (zeroValue (ρ.t 3)).run P w = .ok (Value.int IntKind.i64 0) w
  t4 : P.underlying (ρ.t 4) = some (TypeDesc.bool)
  a4 : ∀ w, (isAgg (ρ.t 4)).run P w = .ok false w
  z4 : ∀ w, (Go.sizeOf (ρ.t 4)).run P w = .ok 1 w
  v4 : ∀ w, (zeroValue (ρ.t 4)).run P w = .ok (Value.bool false) w
  t22 : P.underlying (ρ.t 22) = some (TypeDesc.slice (ρ.t 23))
  a22 : ∀ w, (isAgg (ρ.t 22)).run P w = .ok false w
  z22 : ∀ w, (Go.sizeOf (ρ.t 22)).run P w = .ok 1 w
  v22 : ∀ w, (zeroValue (ρ.t 22)).run P w = .ok (Value.slice none 0 0) w
section
variable {P : Program} {ρ : Ren} {α : Type} [Inhabited α] [DecidableEq α]
omit [DecidableEq α] in
theorem holdsK_load (enc : α → List Value) (k : Nat) (hk : ∀ x, (enc x).length = k) {W : World} {blk off : Nat} {d : Array α} (h : HoldsK enc k W blk off d) (i : Nat) (hi : i < d.size) (m : Nat) :
    Sem.run P (loadCellsFrom ⟨blk, off + i * k, none⟩ 0 k #[]) (W.drewN m) = .ok (enc d[i]!).toArray (W.drewN m) :=
  run_loadCellsFrom_list P _ _ _ k (hk _) (HoldsK.cells (W := W.drewN m) h hk hi)
omit [DecidableEq α] [Inhabited α] in
theorem rowK_bnd' (dk : Array α) (k x : Nat) (hx : x < dk.size) : x * k + k ≤ dk.size * k := by
  have := Nat.mul_le_mul_right k (show x + 1 ≤ dk.size from hx); rwa [Nat.add_mul, Nat.one_mul] at this
omit [DecidableEq α] in
theorem putRowK_set (enc : α → List Value) (k : Nat) (hk : ∀ x, (enc x).length = k) (w : World) (blk off : Nat) (d : Array α) (i : Nat) (x : α) (hi : i < d.size) : (putRowK enc k w blk off d).setCells blk (off + i * k) (enc x) = putRowK enc k w blk off (d.setIfInBounds i x) := by
  show (putRow id w blk off (flatK enc k d)).setCells blk (off + i * k) (enc x) = _
  rw [setCells_putRow _ _ _ _ _ _ (by rw [hk, size_flatK]; exact rowK_bnd' d k i hi), setMany_set enc k hk d i x hi]
  rfl
omit [DecidableEq α] in
theorem putRowK_clear (enc : α → List Value) (k : Nat) (hk : ∀ x, (enc x).length = k) (w : World) (blk off : Nat) (d : Array α) (i n : Nat) (z : α) (h : i + n ≤ d.size) :
    (putRowK enc k w blk off d).setCells blk (off + i * k) (Builtin.zeroCells (enc z).toArray n).toList = putRowK enc k w blk off (lay d i (List.replicate n z)) := by
  have hL : (Builtin.zeroCells (enc z).toArray n).toList.length = n * k := by simp [Builtin.zeroCells, hk]
  show (putRow id w blk off (flatK enc k d)).setCells blk (off + i * k) _ = _
  rw [setCells_putRow _ _ _ _ _ _ (by rw [hL, size_flatK, ← Nat.add_mul]; exact Nat.mul_le_mul_right _ h), setMany_lay enc k hk d i n z h]
  rfl
omit [Inhabited α] [DecidableEq α] in
theorem run_clear_k (w : World) (t e ty : TypeId) (cs : List Value) (k : Nat) (hk : cs.length = k) (h1 : ∀ v ∈ cs, v.oneCell' = true) (ht : P.underlying t = some (.slice e)) (hv : ∀ w, (zeroValue e).run P w = .ok (.agg cs.toArray) w) (b o i n c : Nat) (hn : 0 < n)
    (F : Array Value) (hF : Holds id w b o F) (hb : i * k + n * k ≤ F.size) :
    (Builtin.clear_ #[t] ty #[.slice (some ⟨b, o + i * k, none⟩) n c]).run P w = .ok (.tuple #[]) (w.setCells b (o + i * k) (Builtin.zeroCells cs.toArray n).toList) := by
  have hL : (Builtin.zeroCells cs.toArray n).toList.length = n * k := by simp [Builtin.zeroCells, hk]
  have hst := stores_of_holds P hF (i * k) (Builtin.zeroCells cs.toArray n).toList (by rw [hL]; exact hb) (fun v hv => by
    simp only [Builtin.zeroCells, Array.toList_map, Array.toList_range, List.mem_map, List.mem_range, List.size_toArray] at hv
    obtain ⟨t, ht, rfl⟩ := hv
    have k0 : 0 < cs.length := by
      rcases Nat.eq_zero_or_pos cs.length with h | h
      · rw [h] at ht; simp at ht
      · exact h
    have hm := Nat.mod_lt t k0
    rw [getElem!_pos _ (t % cs.length) (by simpa using hm)]
    exact h1 _ (by simp))
  obtain ⟨m, rfl⟩ : ∃ m, n = m + 1 := ⟨n - 1, by omega⟩
  have hc : (Value.agg cs.toArray).cells = cs.toArray := rfl
  simp [Builtin.clear_, run_underlying ht, hv, hc, hst]
set_option maxHeartbeats 8000000 in
set_option maxRecDepth 1000000 in
theorem compactK (L : CoLays P ρ) (k : Nat) (aE : ∀ w, (isAgg (ρ.t 23)).run P w = .ok true w) (zE : ∀ w, (Go.sizeOf (ρ.t 23)).run P w = .ok k w) (enc : α → List Value) (hk : ∀ x, (enc x).length = k) (h1 : ∀ x, ∀ v ∈ enc x, v.oneCell' = true)
    (heq : EqlAt P (ρ.t 23) (fun x => .agg (enc x).toArray) (fun x y => decide (x = y))) (hne : NeqAt P (ρ.t 23) (fun x => .agg (enc x).toArray) (fun x y => decide (x = y))) (zr : α) (v23 : ∀ w, (zeroValue (ρ.t 23)).run P w = .ok (.agg (enc zr).toArray) w)
    (blk off cap : Nat) (d : Array α) (w : World) (hH : HoldsK enc k w blk off d) (hsz : d.size ≤ 9223372036854775807) (hcap : d.size ≤ cap) :
    Calls P (ρ.f 43) #[.slice (some ⟨blk, off, none⟩) d.size cap] w fun e w' => e = .returned (.slice (some ⟨blk, off, none⟩) (compactUpTo d d.size).length cap) ∧ ∃ q, w' = putRowK enc k (Sort.ahead w q) blk off (compactUpTo d d.size ++ List.replicate (d.size - (compactUpTo d d.size).length) zr).toArray := by
  have mixed := L.mixed; have t0 := L.t0; have a0 := L.a0; have z0 := L.z0; have v0 := L.v0; have t3 := L.t3; have a3 := L.a3; have z3 := L.z3; have v3 := L.v3; have t4 := L.t4; have a4 := L.a4; have z4 := L.z4; have v4 := L.v4; have t22 := L.t22; have a22 := L.a22; have z22 := L.z22; have v22 := L.v22
  have same : ∀ q, (∀ j, j < d.size → keeps d j = true) → (compactUpTo d d.size).length = d.size ∧ w.drewN q = putRowK enc k (Sort.ahead w q) blk off (compactUpTo d d.size ++ List.replicate (d.size - (compactUpTo d d.size).length) zr).toArray := by
    intro q hall
    have e : compactUpTo d d.size = d.toList := by rw [compactUpTo_all d _ hall, range_map_get]
    rw [e]
    refine ⟨by simp, ?_⟩
    simp only [Array.length_toList, Nat.sub_self, List.replicate_zero, List.append_nil, Array.toArray_toList]
    exact (putRowK_self enc k (Sort.ahead w q) blk off d (holdsK_ahead enc k w q blk off d hH)).symm
  have HS : Aside (∀ q, (∀ j, j < d.size → keeps d j = true) → (compactUpTo d d.size).length = d.size ∧ w.drewN q = putRowK enc k (Sort.ahead w q) blk off (compactUpTo d d.size ++ List.replicate (d.size - (compactUpTo d d.size).length) zr).toArray) := same
  have HK : Aside (∀ x, (enc x).length = k) := hk
  have H1 : Aside (∀ x, ∀ v ∈ enc x, v.oneCell' = true) := h1
  have HEq : Aside (EqlAt P (ρ.t 23) (fun x => .agg (enc x).toArray) (fun x y => decide (x = y))) := heq
  have HNe : Aside (NeqAt P (ρ.t 23) (fun x => .agg (enc x).toArray) (fun x y => decide (x = y))) := hne
  have HV : Aside (∀ w, (zeroValue (ρ.t 23)).run P w = .ok (.agg (enc zr).toArray) w) := v23
  have HH : Aside (HoldsK enc k w blk off d) := hH
  clear same hk h1 heq hne v23 hH
  by_cases h2 : d.size < 2
  · obtain ⟨_, _, FG⟩ := L.f43
    go_enter FG, SlBodyN.n43_ntmps ρ
    go_wp2
    go_ret
    obtain ⟨e1, e2⟩ := HS.out 0 (fun j hj => keeps_lt_one d j (by omega))
    exact ⟨by rw [e1]; rfl, 0, e2⟩
  · obtain ⟨_, _, FG⟩ := L.f43
    go_enter FG, SlBodyN.n43_ntmps ρ
    go_wp2
    go_loopg [3] d.size (fun g s3 wr => ∃ kk q : Nat, 1 ≤ kk ∧ kk ≤ d.size ∧ d.size - kk ≤ g ∧ s3 = .int .i64 kk ∧ wr = w.drewN q ∧ ∀ j, j < kk → keeps d j = true)
    case atStart => exact ⟨1, 0, Nat.le_refl _, by omega, by omega, rfl, rfl, keeps_lt_one d⟩
    case round =>
      obtain ⟨kk, q, hk1, hkk, hg, rfl, hwr, hall⟩ := hrel
      have HWR : Aside (wr = w.drewN q) := hwr
      have A : Aside (∀ j, j < kk → keeps d j = true) := hall
      clear hwr hall
      by_cases hlt : kk < d.size
      · have hHr : HoldsK enc k wr blk off d := by rw [HWR.out]; exact HH.out
        have l1 := fun m => holdsK_load (P := P) enc k HK.out hHr kk hlt m
        have l0 := fun m => holdsK_load (P := P) enc k HK.out hHr (kk - 1) (by omega) m
        have q1 := HEq.out.1 d[kk]! d[kk - 1]!
        have q2 : ∀ op a b w, (eqGuard op (ρ.t 23) a b (.agg (enc d[kk]!).toArray) (.agg (enc d[kk - 1]!).toArray)).run P w = .ok () w := fun op a b w => HEq.out.2 op a b d[kk]! d[kk - 1]! w
        clear hHr
        simp only [] at q1
        have kw : IntKind.i64.wrap ((kk : Int) - 1) = ((kk - 1 : Nat) : Int) := by rw [IntKind.wrap_i64]; omega
        have kb : ((kk - 1 : Nat) : Int) < (d.size : Int) := by omega
        have B : Aside (∀ x y, d[kk]! = x → d[kk - 1]! = y → x = y → d[kk]! = d[kk - 1]!) := fun x y h1 h2 h3 => by rw [h1, h2, h3]
        by_cases hdup : d[kk]! = d[kk - 1]!
        · have HD : Aside (d[kk]! = d[kk - 1]!) := hdup
          rw [decide_eq_true hdup] at q1
          clear hdup B
          generalize (enc d[kk]!).toArray = cx at l1 q1 q2
          generalize (enc d[kk - 1]!).toArray = cy at l0 q1 q2
          go_wp2_with fail
          go_quiet_o (fail)
          go_wp2
          clear l1 l0 q1 q2
          go_loopg [3, 5] d.size (fun g s3 s5 wr => ∃ (ka k2 q2 : Nat) (dk : Array α), s3 = .int .i64 ka ∧ s5 = .int .i64 k2 ∧ 1 ≤ k2 ∧ kk + k2 ≤ d.size ∧ d.size - (kk + k2) ≤ g ∧ wr = putRowK enc k (Sort.ahead w q2) blk off dk ∧ CompInv d (kk + k2) ka dk)
          case atStart => exact ⟨kk, 1, q + nq, d, rfl, rfl, Nat.le_refl _, by omega, by omega, by rw [HWR.out, World.drewN_drewN]; exact (putRowK_self enc k (Sort.ahead w (q + nq)) blk off d (holdsK_ahead enc k w (q + nq) blk off d HH.out)).symm, CompInv.start A.out (keeps_neg (by omega) HD.out)⟩
          case round =>
            obtain ⟨ka, k2, qb, dk, rfl, rfl, hb1, hle, hg2, hwr2, hI⟩ := hrel
            have hka := hI.lt
            have hds := hI.size
            have hHk : HoldsK enc k wr blk off dk := by rw [hwr2]; exact holdsK_putRowK enc k _ blk off d dk (holdsK_ahead enc k w qb blk off d HH.out) hds
            have W2 : Aside (wr = putRowK enc k (Sort.ahead w qb) blk off dk) := hwr2
            have I2 : Aside (CompInv d (kk + k2) ka dk) := hI
            clear hwr2
            by_cases hlt2 : kk + k2 < d.size
            · have lm := fun m => holdsK_load (P := P) enc k HK.out hHk (kk + k2) (by omega) m
              have lp := fun m => holdsK_load (P := P) enc k HK.out hHk (kk + (k2 - 1)) (by omega) m
              rw [hI.high (kk + k2) (by omega)] at lm
              rw [hI.high (kk + (k2 - 1)) (by omega)] at lp
              rw [show off + (kk + k2) * k = off + kk * k + k2 * k by rw [Nat.add_mul]; omega] at lm
              rw [show off + (kk + (k2 - 1)) * k = off + kk * k + (k2 - 1) * k by rw [Nat.add_mul]; omega] at lp
              have q1 := HNe.out.1 d[kk + k2]! d[kk + (k2 - 1)]!
              have q2 : ∀ op a b w, (eqGuard op (ρ.t 23) a b (.agg (enc d[kk + k2]!).toArray) (.agg (enc d[kk + (k2 - 1)]!).toArray)).run P w = .ok () w := fun op a b w => HNe.out.2 op a b d[kk + k2]! d[kk + (k2 - 1)]! w
              simp only [] at q1
              have bnd : ka * k + k ≤ dk.size * k := rowK_bnd' dk k ka (by omega)
              have st : ∀ m, Sem.run P (storeCells ⟨blk, off + ka * k, none⟩ (enc d[kk + k2]!) 0) (wr.drewN m) = .ok () ((wr.drewN m).setCells blk (off + ka * k) (enc d[kk + k2]!)) := fun m => stores_of_holds P (W := wr.drewN m) hHk (ka * k) _ (by rw [HK.out, size_flatK]; exact bnd) (H1.out _)
              have kw : IntKind.i64.wrap ((k2 : Int) - 1) = ((k2 - 1 : Nat) : Int) := by rw [IntKind.wrap_i64]; omega
              have kb : ((k2 - 1 : Nat) : Int) < (d.size : Int) - (kk : Int) := by omega
              have kb2 : (k2 : Int) < (d.size : Int) - (kk : Int) := by omega
              have kb3 : (ka : Int) < (d.size : Int) := by omega
              have kb4 : k2 - 1 < d.size - kk := by omega
              have kb5 : k2 < d.size - kk := by omega
              have BN : Aside (ka * k + k ≤ dk.size * k) := bnd
              have ln : (enc d[kk + k2]!).length = k := HK.out _
              clear hHk hI bnd
              have kpp : kk + k2 - 1 = kk + (k2 - 1) := by omega
              have KP : Aside (kk + k2 - 1 = kk + (k2 - 1)) := kpp
              clear kpp
              by_cases huv : d[kk + k2]! = d[kk + (k2 - 1)]!
              · have UV : Aside (d[kk + k2]! = d[kk + (k2 - 1)]!) := huv
                rw [decide_eq_true huv] at q1
                clear huv st
                generalize enc d[kk + k2]! = cu at lm q1 q2 ln
                generalize enc d[kk + (k2 - 1)]! = cv at lp q1 q2
                go_wp2_with fail
                go_quiet_o (fail)
                go_wp2
                go_roundg (d.size - (kk + (k2 + 1)))
                case measure => omega
                case rel => exact ⟨ka, k2 + 1, qb + nq, dk, rfl, by go_num, by omega, by omega, Nat.le_refl _, by rw [W2.out, putRowK_drewN], I2.out.skip (keeps_neg (by omega) (by rw [KP.out]; exact UV.out))⟩
              · have UV : Aside (¬ d[kk + k2]! = d[kk + (k2 - 1)]!) := huv
                rw [decide_eq_false huv] at q1
                clear huv
                generalize hcu : enc d[kk + k2]! = cu at lm q1 q2 st ln
                generalize enc d[kk + (k2 - 1)]! = cv at lp q1 q2
                have CU : Aside (enc d[kk + k2]! = cu) := hcu
                clear hcu
                go_wp2_with fail
                go_quiet_o (fail)
                go_wp2
                go_roundg (d.size - (kk + (k2 + 1)))
                case measure => omega
                case rel => exact ⟨ka + 1, k2 + 1, qb + nq, dk.setIfInBounds ka d[kk + k2]!, by go_num, by go_num, by omega, by omega, Nat.le_refl _, by rw [← CU.out, W2.out, putRowK_drewN]; exact putRowK_set enc k HK.out _ blk off dk ka _ (by omega), by have := I2.out.keep hlt2 (keeps_pos (by rw [KP.out]; exact UV.out)); exact this⟩
            · have hend : kk + k2 = d.size := by omega
              have hcl : ∀ ty, (Builtin.clear_ #[ρ.t 22] ty #[.slice (some ⟨blk, off + ka * k, none⟩) (d.size - ka) (cap - ka)]).run P wr = .ok (.tuple #[]) (wr.setCells blk (off + ka * k) (Builtin.zeroCells (enc zr).toArray (d.size - ka)).toList) := fun ty =>
                run_clear_k wr _ _ ty (enc zr) k (HK.out zr) (H1.out zr) L.t22 HV.out blk off ka (d.size - ka) (cap - ka) (by omega) (flatK enc k dk) hHk (by rw [size_flatK, ← Nat.add_mul]; exact Nat.mul_le_mul_right _ (by omega))
              clear hHk hI
              go_wp2
              go_ret
              have hI := I2.out
              rw [hend] at hI
              refine ⟨by rw [hI.len]; rfl, qb, ?_⟩
              rw [hI.len, ← hI.done zr, W2.out]
              exact putRowK_clear enc k HK.out _ blk off dk ka (d.size - ka) zr (by omega)
        · have HD : Aside (¬ d[kk]! = d[kk - 1]!) := hdup
          rw [decide_eq_false hdup] at q1
          clear hdup B
          generalize (enc d[kk]!).toArray = cx at l1 q1 q2
          generalize (enc d[kk - 1]!).toArray = cy at l0 q1 q2
          go_wp2_with fail
          go_quiet_o (fail)
          go_wp2
          go_roundg (d.size - (kk + 1))
          case measure => omega
          case rel =>
            refine ⟨kk + 1, q + nq, by omega, by omega, Nat.le_refl _, by go_num, by rw [HWR.out, World.drewN_drewN], fun j hj => ?_⟩
            by_cases e : j = kk
            · subst e
              exact keeps_pos HD.out
            · exact A.out j (by omega)
      · have : kk = d.size := by omega
        subst this
        go_wp2
        go_ret
        obtain ⟨e1, e2⟩ := HS.out q A.out
        exact ⟨by rw [e1]; rfl, q, by rw [HWR.out]; exact e2⟩
end
end Go.Proofs.YtpbnigpdpkfpaaaGreatDoor
