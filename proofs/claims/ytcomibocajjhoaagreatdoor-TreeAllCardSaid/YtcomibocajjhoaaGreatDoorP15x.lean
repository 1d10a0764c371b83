/- commit.Get: a commit from a text. commit.Get's walk. -/
import Derived.Test.YtcomibocajjhoaaGreatDoorCu
import Derived.Test.YtcomibocajjhoaaGreatDoorCn
import Derived.Test.YtcomibocajjhoaaGreatDoorP7x
import Derived.Test.YtcomibocajjhoaaGreatDoorP13x
import Derived.Test.YtcomibocajjhoaaGreatDoorP14x
import Derived.Test.YtcomibocajjhoaaGreatDoorP8x
namespace Go.Proofs.YtcomibocajjhoaaGreatDoor
open Go.RowKit
/-- A commit of noughts. -/
def zeroC : List Value := comL noCom none 0 0
theorem builtC : BuiltAs Tryz.prog 33 zeroC [(0, 32), (32, 1), (33, 1), (34, 1)] := fun parts => by
  obtain ⟨it, hi, hz⟩ : ∃ it, Tryz.prog.info? 33 = some it ∧ it.zero.map Value.cells = some zeroC.toArray := by
    have h : (Tryz.prog.info? 33).map (fun it => it.zero.map Value.cells) = some (some zeroC.toArray) := by kernel_rfl
    exact Option.map_eq_some_iff.1 h
  exact built_fill _ _ _ it hi Tryz.underlying33 hz (by kernel_rfl)
theorem built_noteC (nb : ByteArray) : Tryz.prog.built 33 [(3, .string nb)] = some (comL ⟨default, [], 0, nb.data.toList⟩ none 0 0).toArray := by
  rw [builtC, fill_one _ _ 3 _ _ 34 [.string nb] rfl (by simp) (by simp [zeroC, comL_len]), Instr.fill]
  have h1 : (encI default).take 34 = encI default := List.take_of_length_le (by rw [encI_len]; omega)
  have h2 : (encI default).drop 35 = [] := List.drop_of_length_le (by rw [encI_len]; omega)
  simp [zeroC, comL, noCom, encI_len, List.take_append, List.drop_append, h1, h2]
theorem comL_set32 (c : Com) (A A' : Option Addr) (m d m' d' : Nat) (ps : List Idt) : (comL c A m d).set 32 (.slice A' m' d') = comL { c with ps := ps } A' m' d' := by
  unfold comL
  rw [List.set_append_right _ _ (by rw [encI_len]; omega), encI_len]
  rfl
theorem comL_set33 (c : Com) (A : Option Addr) (m d : Nat) (b : Nat) : (comL c A m d).set 33 (.float .f64 b) = comL { c with wh := b } A m d := by
  unfold comL
  rw [List.set_append_right _ _ (by rw [encI_len]; omega), encI_len]
  rfl
theorem comL_setTree (c : Com) (A : Option Addr) (m d : Nat) (x : Idt) : (comL c A m d).take 0 ++ encI x ++ (comL c A m d).drop (0 + (encI x).length) = comL { c with tree := x } A m d := by
  unfold comL
  rw [encI_len, List.take_zero, List.nil_append, Nat.zero_add, List.drop_append, List.drop_of_length_le (by rw [encI_len]; omega), encI_len]
  rfl
theorem Blk.there {w : World} {g : Nat} {t : TypeId} {cs : List Value} (h : Blk w g t cs) (o n : Nat) (hn : o + n ≤ cs.length) : w.there g o n := by
  intro j hj
  refine ⟨?_, h.frozen _⟩
  rw [h.cell (o + j) _ (List.getElem?_eq_getElem (by omega))]
  rfl
/-- The commit that is being read, in a block of its own behind V. -/
structure ComIn (V w : World) (c : Com) : Prop where
  ex : ∃ A d, Blk w V.heap.size 33 (comL c A c.ps.length d) ∧ RowQ w V.heap.size 30 32 (.slice A c.ps.length d) c.ps.length (rowI c.ps) ∧ (Value.slice A c.ps.length d).ownBlock ≠ some V.heap.size
  low : Below V.heap.size V w
  bits : c.wh < 18446744073709551616
theorem ComIn.below {V w w' : World} {c : Com} (h : ComIn V w c) (hb : Below w.heap.size w w') : ComIn V w' c := by
  obtain ⟨A, d, h1, h2, h3⟩ := h.ex
  exact ⟨⟨A, d, h1.below hb, h2.below hb, h3⟩, h.low.trans (hb.mono h.low.size), h.bits⟩
theorem below_setCell' {B : Nat} {a w : World} (h : Below B a w) (g j : Nat) (hg : B ≤ g) (v : Value) : Below B a (w.setCell ⟨g, j, none⟩ v) := by
  exact h.trans ⟨rfl, rfl, rfl, by simp [World.setCell], fun k hk => heap_setCell_other w ⟨g, j, none⟩ k v (by show k ≠ g; omega)⟩
theorem ComIn.push {V w : World} {c : Com} {A : Option Addr} {d : Nat} {x : Idt} {A' : Option Addr} {d' : Nat} (hb : Blk w V.heap.size 33 (comL c A c.ps.length d)) (hr : RowQ w V.heap.size 30 32 (.slice A' (c.ps.length + 1) d') (c.ps.length + 1) (rowI c.ps ++ rowI [x]))
    (hne : (Value.slice A' (c.ps.length + 1) d').ownBlock ≠ some V.heap.size) (hl : Below V.heap.size V w) (h64 : c.wh < 18446744073709551616) : ComIn V (w.setCell ⟨V.heap.size, 32, none⟩ (.slice A' (c.ps.length + 1) d')) { c with ps := c.ps ++ [x] } := by
  have e : (c.ps ++ [x]).length = c.ps.length + 1 := by simp
  refine ⟨⟨A', d', ?_, ?_, ?_⟩, below_setCell' hl _ _ (Nat.le_refl _) _, h64⟩
  · have := hb.setCell 32 (.slice A' (c.ps.length + 1) d')
    rw [comL_set32 c A A' _ _ _ _ (c.ps ++ [x])] at this
    simp only [e]
    exact this
  · simp only [e]
    rw [rowI_append]
    exact hr.far hne _
  · simp only [e]
    exact hne
theorem ComIn.time {V w : World} {c : Com} (h : ComIn V w c) (b : Nat) (h64 : b < 18446744073709551616) : ComIn V (w.setCell ⟨V.heap.size, 33, none⟩ (.float .f64 b)) { c with wh := b } := by
  obtain ⟨A, d, h1, h2, h3⟩ := h.ex
  refine ⟨⟨A, d, ?_, h2.far h3 _, h3⟩, below_setCell' h.low _ _ (Nat.le_refl _) _, h64⟩
  have := h1.setCell 33 (.float .f64 b)
  rw [comL_set33] at this
  exact this
theorem ComIn.cell {V w : World} {c : Com} (h : ComIn V w c) (j : Nat) (hj : j < 35) : (∃ v, w.cell? ⟨V.heap.size, j, none⟩ = some v) ∧ w.frozen? ⟨V.heap.size, j, none⟩ = false := by
  obtain ⟨A, d, h1, _, _⟩ := h.ex
  have hl := comL_len c A c.ps.length d
  exact ⟨⟨_, h1.cell j _ (List.getElem?_eq_getElem (by rw [hl]; exact hj))⟩, h1.frozen j⟩
theorem ComIn.there {V w : World} {c : Com} (h : ComIn V w c) : w.there V.heap.size 0 32 := by
  obtain ⟨A, d, h1, _, _⟩ := h.ex
  exact h1.there 0 32 (by rw [comL_len]; omega)
theorem ComIn.name {V w : World} {c : Com} (h : ComIn V w c) (x : Idt) : ComIn V (w.setCells V.heap.size 0 (encI x)) { c with tree := x } := by
  obtain ⟨A, d, h1, h2, h3⟩ := h.ex
  refine ⟨⟨A, d, ?_, h2.of_block fun k hk => heap_setCells_other V.heap.size k (fun e => h3 (by rw [hk, e])) _ 0 w, h3⟩, ?_, h.bits⟩
  · have := Blk.setCells (encI x) 0 w _ h1 (by rw [encI_len, comL_len]; omega)
    rwa [comL_setTree] at this
  · refine h.low.trans ⟨?_, ?_, ?_, ?_, ?_⟩
    · exact (setCells_os V.heap.size (encI x) 0 w).1
    · exact (setCells_os V.heap.size (encI x) 0 w).2.1
    · exact (setCells_os V.heap.size (encI x) 0 w).2.2
    · rw [size_setCells]; exact Nat.le_refl _
    · exact fun k hk => heap_setCells_other V.heap.size k (by omega) _ 0 w
/-- What commit.Get tells. -/
def GetCPost (W : World) (l : List UInt8) (e : Ending) (W' : World) : Prop := match getC l with
  | some c => ∃ A d, e = .returned (.tuple #[.agg (comL c A c.ps.length d).toArray, .int .i64 0]) ∧ RowQ W' W.heap.size 30 32 (.slice A c.ps.length d) c.ps.length (rowI c.ps) ∧ Below W.heap.size W W'
  | none => e = .returned (.tuple #[.agg zeroC.toArray, .int .i64 1]) ∧ Below W.heap.size W W'
theorem splitK_short (sep : List UInt8) : ∀ (k : Nat) (s : List UInt8), ∀ x ∈ Lib.splitK sep 0 k s, x.length ≤ s.length := by
  intro k
  induction k with
  | zero => intro s x hx; rw [Lib.splitK, List.mem_singleton] at hx; rw [hx]; exact Nat.le_refl _
  | succ k ih =>
    intro s x hx
    rw [Lib.splitK] at hx
    split at hx
    · rw [List.mem_singleton] at hx; rw [hx]; exact Nat.le_refl _
    · rcases List.mem_cons.1 hx with rfl | h
      · rw [List.length_take]; omega
      · have := ih _ _ h
        rw [List.length_drop] at this
        omega
theorem splitL_short (s sep : List UInt8) : ∀ x ∈ Lib.split s sep, x.length ≤ s.length := splitK_short sep _ s
theorem foldl_next (T : List (List UInt8)) (k : Nat) (hk : k < T.length) (c1 c : Com) (h : c = (T.take k).foldl stepC c1) : (T.take (k + 1)).foldl stepC c1 = stepC c (T.getD k []) := by
  rw [List.take_add_one, List.foldl_append, ← h]
  simp [hk, List.getD_eq_getElem?_getD]
theorem stepC_eq (c : Com) (ll : List UInt8) : stepC c ll = if (namedV ll parW).2 = true then { c with ps := c.ps ++ [(namedV ll parW).1] } else if whenW.isPrefixOf ll = true then { c with wh := (wgetV (ll.drop 5)).1 } else c := rfl
theorem infoZC : (Tryz.prog.info? 33).map (·.size) = some zeroC.length := by
  have h : (Tryz.prog.info? 33).map (·.size) = some 35 := by kernel_rfl
  rw [h]
  rfl
theorem own_ne {w : World} {v v' : Value} {g : Nat} (hne : v.ownBlock ≠ some g) (ha : v'.ownBlock = v.ownBlock ∨ v'.ownBlock = some w.heap.size) (hg : g < w.heap.size) : v'.ownBlock ≠ some g := by
  rcases ha with e | e
  · rw [e]; exact hne
  · rw [e]; intro e2; injection e2 with e2; omega
theorem run_storeF (w : World) (ad : Addr) (b : Nat) (v : Value) (hc : w.cell? ad = some v) (hf : w.frozen? ad = false) : (store ad (.float .f64 b)).run Tryz.prog w = .ok () (w.setCell ad (.float .f64 b)) := by
  rw [run_store _ _ _ _ _ rfl]
  simp [hc, hf]
theorem run_tailS (w : World) (A : Option Addr) (n c : Nat) (hk : 1 ≤ n) (_hc : n ≤ c) :
    (Instr.sliceAt 50 (.slice A n c) (some (.int .i64 1)) none none).run Tryz.prog w = .ok (.slice (if c = 1 then A else A.map (·.add 1)) (n - 1) (c - 1)) w := by
  have h1 : ((n : Int) - 1).toNat = n - 1 := by omega
  simp [Instr.sliceAt, Instr.slice, Instr.sliceBounds, Instr.sliceBound, go_sem]
  first | done | exact fun h => absurd h (by omega)
theorem tail_src {w : World} {g : Nat} {L : List (List UInt8)} (h : Src w 1 (some ⟨g, 0, none⟩) L.length (Ss L)) : Src w 1 (if L.length = 1 then (some ⟨g, 0, none⟩ : Option Addr) else (some (⟨g, 0, none⟩ : Addr)).map (·.add 1)) (L.length - 1) (Ss (L.drop 1)) := by
  refine ⟨by simp [Ss], fun h0 => ?_, fun u hu => by
    unfold Ss at hu
    obtain ⟨x, _, rfl⟩ := List.mem_map.1 hu
    rfl⟩
  rw [if_neg (by omega)]
  refine ⟨_, rfl, fun j u hu => ?_⟩
  obtain ⟨ad, e, hx⟩ := h.2.1 (by omega)
  obtain rfl := Option.some.inj e
  have h2 : (Ss L)[1 + j]? = some u := by
    rw [← hu]
    simp [Ss, Nat.add_comm]
  have := hx _ _ h2
  rw [addr_row _ rfl] at this
  show w.cell? (((⟨g, 0, none⟩ : Addr).add 1).add j) = some u
  rw [addr_row (⟨g, 0, none⟩ : Addr) rfl, addr_row _ rfl]
  simpa [Nat.add_assoc] using this
end Go.Proofs.YtcomibocajjhoaaGreatDoor
namespace Go.Proofs.YtcomibocajjhoaaGreatDoor
open Go.RowKit
theorem ba_back (s : ByteArray) (l : List UInt8) (h : l = s.data.toList) : s = ⟨l.toArray⟩ := ba_ext (by rw [h])
set_option maxRecDepth 20000 in
set_option maxHeartbeats 16000000 in
theorem commitGet_any (W : World) (s : ByteArray) (l : List UInt8) (hl : l = s.data.toList) (hs : s.size < 4294967281) (hG : Gl W) (hE : Ge W) : Calls Tryz.prog 19 #[.string s] W (GetCPost W l) := by
  have zI := zI_eq
  -- the world behind the result's variable
  have r0 := Blk.new W 33 zeroC
  have l0 := (Below.refl W.heap.size W).alloc (Nat.le_refl _) (.cells zeroC.toArray 33)
  obtain ⟨w0, hw0⟩ : ∃ w0, w0 = W.alloc (.cells zeroC.toArray 33) := ⟨_, rfl⟩
  rw [← hw0] at r0 l0
  obtain ⟨mx, hmx⟩ := (hG.below l0).mlen
  have cc := Tryz.strings_Cut s ⟨#[10, 10]⟩ mx w0 hs hmx
  rw [← hl] at cc
  have e2 : (⟨#[10, 10]⟩ : ByteArray).data.toList = [10, 10] := rfl
  rw [e2] at cc
  have hpar : parseC l = ((Lib.split (Lib.cut l [10, 10]).1 [10]).drop 1).foldl stepC ⟨(namedV ((Lib.split (Lib.cut l [10, 10]).1 [10]).headD []) treeW).1, [], 0, (Lib.cut l [10, 10]).2.1⟩ := rfl
  have hls : l.length = s.size := by rw [hl, ← ba_size]
  have hh1 : (Lib.cut l [10, 10]).1.length ≤ l.length := by
    unfold Lib.cut
    split
    · rw [List.length_take]; omega
    · exact Nat.le_refl _
  have hh2 : (Lib.cut l [10, 10]).2.1.length ≤ l.length := by
    unfold Lib.cut
    split
    · rw [List.length_drop]; omega
    · exact Nat.zero_le _
  obtain ⟨hd, hhd⟩ : ∃ hd : ByteArray, hd = ⟨(Lib.cut l [10, 10]).1.toArray⟩ := ⟨_, rfl⟩
  obtain ⟨nt, hnt⟩ : ∃ nt : ByteArray, nt = ⟨(Lib.cut l [10, 10]).2.1.toArray⟩ := ⟨_, rfl⟩
  have hdd : hd.data.toList = (Lib.cut l [10, 10]).1 := by rw [hhd]
  have ntd : nt.data.toList = (Lib.cut l [10, 10]).2.1 := by rw [hnt]
  rw [← hhd, ← hnt] at cc
  rw [← hdd, ← ntd] at hpar
  have hdz : hd.size < 4294967281 := by rw [ba_size, hdd]; omega
  have ntz : nt.size < 4294967281 := by rw [ba_size, ntd]; omega
  generalize (Lib.cut l [10, 10]).2.2 = cb at cc
  have CC := Lib.hid cc
  have cS := fun w (hw : Gl w) => split_any w hd 10 hdz hw
  have hL0 : (Lib.split hd.data.toList [10]).length = Lib.countB hd ⟨#[10]⟩ + 1 := by
    have := congrArg List.length (splitB_Ss hd 10)
    have hlen := Lib.splitB_all ⟨#[10]⟩ (Nat.le_refl 1) 0 _ hd rfl
    simpa [Ss, hlen] using this.symm
  have hcl := Lib.countB_le ⟨#[10]⟩ (Nat.le_refl 1) hd.size hd (Nat.le_refl _)
  obtain ⟨L, hL⟩ : ∃ L, L = Lib.split hd.data.toList [10] := ⟨_, rfl⟩
  have hsh : ∀ x ∈ L, x.length < 4294967281 := fun x hx => by
    rw [hL] at hx
    have := splitL_short _ _ x hx
    rw [← ba_size] at this
    omega
  rw [← hL] at hpar hL0
  simp only [← hL] at cS
  have HP := Lib.hid hpar
  have HG := Lib.hid (hG.below l0)
  have HE := Lib.hid (hE.below l0)
  have R0 := Lib.hid r0
  have L0 := Lib.hid l0
  have CS := Lib.hid cS
  have n1 : 1 ≤ L.length := by omega
  have nmax : L.length ≤ 4294967281 := by omega
  have NM := Lib.hid nmax
  have N1 := Lib.hid n1
  have HL := Lib.hid hl
  have SZ := Lib.hid hs
  have SH := Lib.hid hsh
  have NTZ := Lib.hid ntz
  clear hsh hl hs hG hE r0 l0 cc e2 hpar hls hh1 hh2 hhd hnt hdd hdz ntz cS hL0 hcl hL hmx
  obtain ⟨n, hn⟩ : ∃ n, n = L.length := ⟨_, rfl⟩
  go_enter Tryz.func19, Tryz.ntmps19
  go_upto_region 1 with fail
  change Code.wp _ _ _ _ (W.alloc (.cells zeroC.toArray 33))
  rw [← hw0]
  clear hw0
  obtain ⟨g0, hg0⟩ : ∃ g0, g0 = W.heap.size := ⟨_, rfl⟩
  rw [← hg0] at R0
  rw [← hg0]
  have G0 := Lib.hid hg0
  clear hg0 hn
  go_upto_region 3 with (first
    | (go_at_call 49; refine CC.out.mono ?_; rintro e w1 ⟨rfl, q, hw⟩; have B1 : Hid (Below w0.heap.size w0 w1) := Lib.hid (by rw [hw]; exact below_drewN' (Below.refl _ _) q); clear hw)
    | (go_at_call 50; refine (CS.out _ (HG.out.below B1.out)).mono ?_; rintro e V ⟨L', hLL, he, hsr, hb, h9⟩; rw [hLL] at he hsr; subst he; clear hLL h9; have SR := Lib.hid hsr; have BV := Lib.hid (B1.out.trans (hb.mono B1.out.size)); clear hsr hb))
  clear CC CS B1
  generalize w1.heap.size = gl at SR ⊢
  have VG := Lib.hid (HG.out.below BV.out)
  have VE : Hid (Ge V) := Lib.hid (HE.out.below BV.out)
  have VR := Lib.hid (R0.out.below BV.out)
  have VL := Lib.hid (L0.out.trans (BV.out.mono L0.out.size))
  clear HG HE R0 L0 BV
  -- the commit's variable
  obtain ⟨c0, hc0⟩ : ∃ c0 : Com, c0 = ⟨default, [], 0, nt.data.toList⟩ := ⟨_, rfl⟩
  have bu := built_noteC nt
  rw [← hc0] at bu
  have i0 := infoC c0 none 0 0
  have p0 := comL_one c0 none 0 0
  have hps0 : c0.ps = [] := by rw [hc0]
  have I0 : ComIn V ((V.alloc (.cells zeroC.toArray 33)).setRow V.heap.size (comL c0 none 0 0).toArray) c0 := by
    refine ⟨⟨none, 0, ?_, ?_, by simp [Value.ownBlock]⟩, below_setRow' ((Below.refl _ _).alloc (Nat.le_refl _) _) (Nat.le_refl _) _, by rw [hc0]; exact Nat.zero_lt_succ _⟩
    · rw [hps0]
      exact (Blk.new V 33 zeroC).row _
    · rw [hps0]
      exact RowQ.nil _ _ _ _
  have BU := Lib.hid bu
  have IC0 := Lib.hid i0
  have PC0 := Lib.hid p0
  have LC0 := Lib.hid (comL_len c0 none 0 0)
  have HC0 := Lib.hid hc0
  clear bu i0 p0 hps0 hc0
  obtain ⟨cs0, hcs0⟩ : ∃ cs0, cs0 = comL c0 none 0 0 := ⟨_, rfl⟩
  rw [← hcs0] at BU IC0 PC0 LC0 I0
  clear hcs0
  go_upto_region 4 with (first
    | (refine wpl_buildP rfl 33 _ rfl cs0 BU.out ?_)
    | (refine wpl_storeS rfl 33 (.tmp 8) _ rfl V.heap.size cs0 rfl rfl 33 zeroC (Blk.new V _ _) IC0.out (by rw [LC0.out]; rfl) PC0.out ?_))
  change Code.wp _ _ _ _ ((V.alloc (.cells zeroC.toArray 33)).setRow V.heap.size cs0.toArray)
  have KI := Lib.hid I0
  generalize (V.alloc (.cells zeroC.toArray 33)).setRow V.heap.size cs0.toArray = w3 at KI ⊢
  clear I0 BU IC0 PC0 LC0
  -- the first line
  obtain ⟨l0b, hl0b⟩ : ∃ l0b : ByteArray, l0b = ⟨(L.headD []).toArray⟩ := ⟨_, rfl⟩
  have q0 : w3.cell? ⟨gl, 0, none⟩ = some (.string l0b) := by
    have hsr := SR.out.far (w' := w3) fun ad e hm => by
      have h5 := src_lt SR.out (by decide) ad e hm
      exact KI.out.low.block _ h5
    obtain ⟨ad, e, hx⟩ := hsr.2.1 (by have := N1.out; omega)
    obtain rfl := Option.some.inj e
    refine hx 0 _ ?_
    rw [hl0b]
    have hn1 := N1.out
    cases L with
    | nil => simp at hn1
    | cons x r => rfl
  have cN := fun w => named_any w l0b ⟨#[116, 114, 101, 101, 32]⟩ (L.headD []) treeW (by rw [hl0b]) rfl
  obtain ⟨x0, hx0⟩ : ∃ x0, x0 = (namedV (L.headD []) treeW).1 := ⟨_, rfl⟩
  rw [← hx0] at cN
  have HP2 := HP.out
  rw [← hx0] at HP2
  generalize (namedV (L.headD []) treeW).2 = b0 at cN
  have CN := Lib.hid cN
  have IX0 := Lib.hid (infoId x0)
  have PX0 := Lib.hid (encI_one x0)
  have LX0 := Lib.hid (encI_len x0)
  have hc1 : (⟨x0, [], 0, nt.data.toList⟩ : Com) = { c0 with tree := x0 } := by rw [HC0.out]
  rw [hc1] at HP2
  have HPP := Lib.hid HP2
  have l1 : (0 : Int) < (L.length : Int) := by have := N1.out; omega
  clear HP HP2 hx0 cN hl0b hc1
  go_upto_region 5 with (first
    | (go_at_call 51; refine (CN.out _).mono ?_; rintro e w4 ⟨rfl, h4⟩; have I4 := Lib.hid (KI.out.below h4); clear h4)
    | (refine wpl_store_mid rfl 30 (.tmp 34) _ rfl V.heap.size 0 (encI x0) rfl rfl (by rw [LX0.out]; exact I4.out.there) IX0.out PX0.out ?_))
  have I5 := Lib.hid (I4.out.name x0)
  clear I4 KI CN IX0 PX0 LX0 q0
  generalize w4.setCells V.heap.size 0 (encI x0) = w5 at I5 ⊢
  obtain ⟨c1, hc1⟩ : ∃ c1 : Com, c1 = { c0 with tree := x0 } := ⟨_, rfl⟩
  have hcp : c1.ps = [] := by rw [hc1, HC0.out]
  have hcn : c1.note = nt.data.toList := by rw [hc1, HC0.out]
  rw [← hc1] at I5 HPP
  have rt := fun w => run_tailS w (some ⟨gl, 0, none⟩) L.length L.length N1.out (Nat.le_refl _)
  have ts := tail_src SR.out
  obtain ⟨A', hA'⟩ : ∃ A' : Option Addr, A' = if L.length = 1 then (some ⟨gl, 0, none⟩ : Option Addr) else (some (⟨gl, 0, none⟩ : Addr)).map (·.add 1) := ⟨_, rfl⟩
  rw [← hA'] at ts
  simp only [← hA'] at rt
  obtain ⟨n', hn'⟩ : ∃ n', n' = L.length - 1 := ⟨_, rfl⟩
  obtain ⟨T, hT⟩ : ∃ T, T = L.drop 1 := ⟨_, rfl⟩
  have hTl : T.length = n' := by rw [hT, hn']; simp
  rw [← hn', ← hT] at ts
  simp only [← hn'] at rt
  rw [← hT] at HPP
  have TSH : Hid (∀ x ∈ T, x.length < 4294967281) := Lib.hid fun x hx => SH.out x (by rw [hT] at hx; exact List.mem_of_mem_drop hx)
  have TS := Lib.hid ts
  have TL := Lib.hid hTl
  have NN := Lib.hid (show n' ≤ 4294967281 by have := NM.out; omega)
  have n9 : (n' : Int) ≤ 4294967281 := by have := NM.out; omega
  have CN1 := Lib.hid hcn
  have CP1 := Lib.hid hcp
  clear HC0 hc1 hcp hcn ts hA' hn' hT hTl SR NM SH
  go_wp2
  clear rt l1
  go_loopw [38] (fun i wr => ∃ (k : Nat) (c : Com), k ≤ n' ∧ i = .int .i64 k ∧ c = (T.take k).foldl stepC c1 ∧ c.ps.length ≤ k ∧ c.note = nt.data.toList ∧ ComIn V wr c) (fun i _ => n' - (intOf i).toNat)
  case atStart => exact ⟨0, c1, by omega, rfl, rfl, by rw [CP1.out]; exact Nat.le_refl _, CN1.out, I5.out⟩
  case round =>
    obtain ⟨k, c, hk, rfl, hcf, hps, hno, hI⟩ := hrel
    clear I5
    have KR := Lib.hid hI
    have HCF := Lib.hid hcf
    have HPS := Lib.hid hps
    have HNO := Lib.hid hno
    clear hI hcf hps hno
    by_cases hlt : k < n'
    · have k1 : (k : Int) < (n' : Int) := by omega
      obtain ⟨ll, hll⟩ : ∃ ll, ll = T.getD k [] := ⟨_, rfl⟩
      obtain ⟨lb, hlb⟩ : ∃ lb : ByteArray, lb = ⟨ll.toArray⟩ := ⟨_, rfl⟩
      have hmem : ll ∈ T := by rw [hll]; simp [List.getD_eq_getElem?_getD, show k < T.length by rw [TL.out]; exact hlt]
      have hllz : ll.length < 4294967281 := TSH.out _ hmem
      have hnx := foldl_next T k (by rw [TL.out]; exact hlt) c1 c HCF.out
      rw [← hll, stepC_eq] at hnx
      have hsr := TS.out.far (w' := wr) fun ad e hm => by
        have h5 := src_lt TS.out (by decide) ad e hm
        exact KR.out.low.block _ h5
      obtain ⟨ad, hA, hx⟩ := hsr.2.1 (by omega)
      subst hA
      have q : wr.cell? (ad.add k) = some (.string lb) := hx k _ (by
        rw [hlb, hll]
        simp [Ss, List.getD_eq_getElem?_getD, show k < T.length by rw [TL.out]; exact hlt])
      have cN := fun w => named_any w lb ⟨#[112, 97, 114, 101, 110, 116, 32]⟩ ll parW (by rw [hlb]) rfl
      obtain ⟨x1, hx1⟩ : ∃ x1, x1 = (namedV ll parW).1 := ⟨_, rfl⟩
      obtain ⟨b1, hb1⟩ : ∃ b1, b1 = (namedV ll parW).2 := ⟨_, rfl⟩
      rw [← hx1, ← hb1] at cN hnx
      have ck := fun w => Tryz.strings_CutPrefix lb ⟨#[119, 104, 101, 110, 32]⟩ w
      have e5 : (⟨#[119, 104, 101, 110, 32]⟩ : ByteArray).data.toList = whenW := rfl
      have elb : lb.data.toList = ll := by rw [hlb]
      rw [e5, elb] at ck
      have hp : Lib.hasPrefix ll whenW = whenW.isPrefixOf ll := rfl
      rw [hp] at ck
      obtain ⟨u, hu⟩ : ∃ u : ByteArray, u = ⟨(Lib.trimPrefix ll whenW).toArray⟩ := ⟨_, rfl⟩
      rw [← hu] at ck
      have hut : whenW.isPrefixOf ll = true → u.data.toList = ll.drop 5 := fun h => by
        rw [hu]
        show Lib.trimPrefix ll whenW = _
        unfold Lib.trimPrefix
        rw [hp, h, if_pos rfl]
        rfl
      have huz : u.size ≤ 140737488355328 := by
        rw [ba_size, hu]
        show (Lib.trimPrefix ll whenW).length ≤ _
        unfold Lib.trimPrefix
        split
        · rw [List.length_drop]; omega
        · omega
      generalize whenW.isPrefixOf ll = bw at ck hnx hut
      have CN := Lib.hid cN
      have CK := Lib.hid ck
      have NX := Lib.hid hnx
      have HUT := Lib.hid hut
      have HUZ := Lib.hid huz
      have IX := Lib.hid (infoId x1)
      have PX := Lib.hid (encI_one x1)
      have LX := Lib.hid (encI_len x1)
      have HLT := Lib.hid hlt
      clear hll hlb hmem hllz hnx hsr hx cN hx1 hb1 ck e5 elb hp hu hut huz hlt hk
      go_upto_region 9 with (first
        | (go_at_call 51; refine (CN.out _).mono ?_; rintro e w6 ⟨rfl, h6⟩; have J6 := Lib.hid (KR.out.below h6); clear h6)
        | (refine wpl_storeS rfl 30 (.tmp 11) _ rfl w6.heap.size (encI x1) rfl rfl 30 zero32 (Blk.new w6 _ _) IX.out (by rw [LX.out]; rfl) PX.out ?_))
      generalize hw7 : World.setRow _ _ _ = w7
      have E7 : Below w6.heap.size w6 w7 := by rw [← hw7]; exact below_setRow' ((Below.refl _ _).alloc (Nat.le_refl _) _) (Nat.le_refl _) _
      have K7 : Hid (Blk w7 w6.heap.size 30 (encI x1)) := Lib.hid (by rw [← hw7]; exact (Blk.new w6 30 zero32).row _)
      have J7 := Lib.hid (J6.out.below E7)
      clear hw7 E7 J6 CN q
      generalize w6.heap.size = g11 at K7 ⊢
      cases b1
      · have HB := Lib.hid (show (T.take (k + 1)).foldl stepC c1 = if bw = true then { c with wh := (wgetV (ll.drop 5)).1 } else c from NX.out)
        cases bw
        · have HC := Lib.hid (show (T.take (k + 1)).foldl stepC c1 = c from HB.out)
          clear HB NX
          go_wp2_with (go_at_call 52; refine (CK.out _).mono ?_; rintro e w' ⟨rfl, hw⟩; replace hw := hw.symm; subst hw)
          go_roundw
          case measure => simp [intOf]; have := HLT.out; omega
          case rel => exact ⟨k + 1, c, HLT.out, by go_num, HC.out.symm, Nat.le_succ_of_le HPS.out, HNO.out, J7.out⟩
        · have HC := Lib.hid (show (T.take (k + 1)).foldl stepC c1 = { c with wh := (wgetV (ll.drop 5)).1 } from HB.out)
          have cG := wget_any w7 u HUZ.out (VG.out.below J7.out.low) (VE.out.below J7.out.low)
          have hlt64 := wgetV_lt (ll.drop 5)
          unfold wgetT at cG
          rw [HUT.out rfl] at cG
          generalize (wgetV (ll.drop 5)).1 = fv at cG HC hlt64
          generalize (wgetV (ll.drop 5)).2 = fb at cG
          have CG := Lib.hid cG
          have H64 := Lib.hid hlt64
          clear HB NX cG hlt64
          go_wp2_with (first
            | (go_at_call 52; refine (CK.out _).mono ?_; rintro e w' ⟨rfl, hw⟩; replace hw := hw.symm; subst hw)
            | (go_at_call 53; refine CG.out.mono ?_; rintro e w8 ⟨rfl, h8⟩; have J8 := Lib.hid (J7.out.below h8); clear h8; obtain ⟨⟨v33, hc33⟩, hf33⟩ := J8.out.cell 33 (by decide); have st33 := run_storeF w8 _ fv v33 hc33 hf33))
          go_roundw
          case measure => simp [intOf]; have := HLT.out; omega
          case rel => exact ⟨k + 1, { c with wh := fv }, HLT.out, by go_num, HC.out.symm, Nat.le_succ_of_le HPS.out, HNO.out, J8.out.time fv H64.out⟩
      · have HC := Lib.hid (show (T.take (k + 1)).foldl stepC c1 = { c with ps := c.ps ++ [x1] } from NX.out)
        clear NX CK HUT HUZ
        obtain ⟨A1, d1, hbk, hrq, hne⟩ := J7.out.ex
        have BK := Lib.hid hbk
        have RQ := Lib.hid hrq
        have NE := Lib.hid hne
        have hc32 := hbk.cell 32 _ (comL_at c A1 c.ps.length d1).1
        have pz : c.ps.length ≤ 4294967281 := by have := HPS.out; have := NN.out; have := HLT.out; omega
        have PZ := Lib.hid pz
        clear hbk hrq hne pz
        go_wp2_with (first
          | (refine wpl_loadS rfl 30 (.tmp 11) rfl ⟨g11, 0, none⟩ rfl (encI x1) Tryz.isAgg30 IX.out (fun j u hu => by rw [addr_row _ rfl, Nat.zero_add]; exact K7.out.cell j u hu) ?_)
          | (refine wpl_buildE idtE rfl 31 30 1 _ rfl [x1] rfl rfl (.agg zero32.toArray) 32 Tryz.underlying31 Tryz.infoIdz (by decide) (by decide) ?_; have RQ3 := Lib.hid (RQ.out.alloc (.cells (idtE.row [x1]).toArray 30)); have BK3 := Lib.hid (BK.out.alloc (.cells (idtE.row [x1]).toArray 30)); have L3 := Lib.hid (J7.out.low.alloc J7.out.low.size (.cells (idtE.row [x1]).toArray 30)); have S3 := Lib.hid (row_src idtE w7 30 [x1]); generalize w7.heap.size = g12 at S3 ⊢; generalize World.alloc w7 (.cells (idtE.row [x1]).toArray 30) = w8 at RQ3 BK3 L3 S3 ⊢)
          | (at_builtin; refine wpl_append rfl (.tmp 49) (.tmp 51) 31 rfl V.heap.size 30 (.agg zero32.toArray) 32 32 Tryz.underlying31 Tryz.infoIdz rfl (by decide) (.slice A1 c.ps.length d1) c.ps.length (rowI c.ps) rfl RQ3.out (some ⟨g12, 0, none⟩) 1 1 (rowI [x1]) rfl S3.out (by have := PZ.out; omega) (by have := PZ.out; omega) L3.out.size ?_; intro v9 w9 hr9 hg9 ha9; obtain ⟨A9, d9, rfl, _, _⟩ := hr9.shape; have R9 := Lib.hid hr9; have B9 := Lib.hid (BK3.out.grown hg9 (fun e => NE.out e.symm)); have L9 := Lib.hid (L3.out.grown hg9 L3.out.size (fun k e => (RQ3.out.lt k e).1)); have NE9 : Hid ((Value.slice A9 (c.ps.length + 1) d9).ownBlock ≠ some V.heap.size) := Lib.hid (own_ne NE.out ha9 BK3.out.lt); have hc9 := B9.out.cell 32 _ (comL_at c A1 c.ps.length d1).1; have hf9 := B9.out.frozen 32; clear hr9 hg9 ha9))
        go_roundw
        case measure => simp [intOf]; have := HLT.out; omega
        case rel => exact ⟨k + 1, { c with ps := c.ps ++ [x1] }, HLT.out, by go_num, HC.out.symm, by have := HPS.out; simp; omega, HNO.out, ComIn.push B9.out R9.out NE9.out L9.out KR.out.bits⟩
    · have : k = n' := by omega
      subst this
      have hpc : parseC l = c := by
        rw [HPP.out, HCF.out, List.take_of_length_le (by rw [TL.out]; exact Nat.le_refl _)]
      have hget : getC l = if mayC c = true ∧ commitB c = l then some c else none := by unfold getC; rw [hpc]
      have GET := Lib.hid hget
      obtain ⟨A1, d1, hbk, hrq, hne⟩ := KR.out.ex
      obtain ⟨Ax, dx, e, hcd, hcm⟩ := hrq.shape
      injection e with _ _ e
      subst e
      have pz : c.ps.length ≤ 4294967281 := by have := HPS.out; have := NN.out; omega
      have hca : ComAt wr c A1 c.ps.length d1 := ⟨hrq.src (rowI_one _), hcd, hcm, KR.out.bits, by
        rw [HNO.out, ← ba_size]
        have := NTZ.out
        simp only [maxLen]
        omega⟩
      have cP := commitPut_any wr c A1 c.ps.length d1 hca (by omega) (VG.out.below KR.out.low)
      unfold putCV at cP
      have BK := Lib.hid hbk
      have RQ := Lib.hid hrq
      have NE := Lib.hid hne
      have IC := Lib.hid (infoC c A1 c.ps.length d1)
      have PC := Lib.hid (comL_one c A1 c.ps.length d1)
      have LC := Lib.hid (comL_len c A1 c.ps.length d1)
      have LW := Lib.hid KR.out.low
      have gz : g0 < V.heap.size := VR.out.lt
      have GZ := Lib.hid gz
      clear hpc hget hbk hrq hne hcd hcm pz hca HCF HPS HNO KR hlt hk TS TSH TL
      obtain ⟨cs, hcs⟩ : ∃ cs, cs = comL c A1 c.ps.length d1 := ⟨_, rfl⟩
      rw [← hcs] at cP BK IC PC LC
      have HCS := Lib.hid hcs
      clear hcs
      cases hm : mayC c
      · have HN : Hid (getC l = none) := Lib.hid (by rw [GET.out, if_neg (by rw [hm]; simp)])
        rw [hm] at cP
        have CPT := Lib.hid cP
        clear cP hm GET
        go_wp2_with (first
          | (refine wpl_loadS rfl 33 (.tmp 8) rfl ⟨V.heap.size, 0, none⟩ rfl cs Tryz.isAgg33 IC.out (fun j u hu => by rw [addr_row _ rfl, Nat.zero_add]; exact BK.out.cell j u hu) ?_)
          | (go_at_call 13; refine CPT.out.mono ?_; rintro e w10 ⟨rfl, h10⟩; have L10 := Lib.hid (LW.out.trans (h10.mono LW.out.size)); clear h10; have R10 := Lib.hid (VR.out.below L10.out))
          | (refine wpl_build rfl 33 _ rfl zeroC (by kernel_rfl) ?_)
          | (refine wpl_storeS rfl 33 (.tmp 2) _ rfl g0 zeroC rfl rfl 33 zeroC R10.out infoZC rfl (comL_one _ _ _ _) ?_))
        refine bodyPost_ret (res_rowS2 rfl _ _ g0 33 zeroC _ rfl (R10.out.row _) Tryz.underlying33 rfl infoZC) rfl ?_
        unfold GetCPost
        rw [HN.out]
        exact ⟨rfl, below_setRow' (VL.out.trans (L10.out.mono VL.out.size)) (by rw [G0.out]; exact Nat.le_refl _) _⟩
      · obtain ⟨fb, hfb⟩ : ∃ fb : ByteArray, fb = ⟨(commitB c).toArray⟩ := ⟨_, rfl⟩
        rw [hm] at cP
        simp only [cond_true] at cP
        rw [← hfb] at cP
        have CPT := Lib.hid cP
        clear cP
        by_cases hq : commitB c = l
        · have HN : Hid (getC l = some c) := Lib.hid (by rw [GET.out, if_pos ⟨hm, hq⟩])
          have hfs : fb = s := by rw [hfb, hq]; exact (ba_back s l HL.out).symm
          subst hfs
          clear hfb hq hm GET
          go_wp2_with (first
            | (refine wpl_loadS rfl 33 (.tmp 8) rfl ⟨V.heap.size, 0, none⟩ rfl cs Tryz.isAgg33 IC.out (fun j u hu => by rw [addr_row _ rfl, Nat.zero_add]; exact BK.out.cell j u hu) ?_)
            | (go_at_call 13; refine CPT.out.mono ?_; rintro e w10 ⟨rfl, h10⟩; have L10 := Lib.hid (LW.out.trans (h10.mono LW.out.size)); have R10 := Lib.hid (VR.out.below L10.out); have BK2 := Lib.hid (BK.out.below h10); have RQ2 := Lib.hid (RQ.out.below h10); clear h10)
            | (refine wpl_loadS rfl 33 (.tmp 8) rfl ⟨V.heap.size, 0, none⟩ rfl cs Tryz.isAgg33 IC.out (fun j u hu => by rw [addr_row _ rfl, Nat.zero_add]; exact BK2.out.cell j u hu) ?_)
            | (refine wpl_storeS rfl 33 (.tmp 2) _ rfl g0 cs rfl rfl 33 zeroC R10.out IC.out (by rw [LC.out]; rfl) PC.out ?_))
          refine bodyPost_ret (res_rowS2 rfl _ _ g0 33 cs _ rfl (R10.out.row _) Tryz.underlying33 rfl IC.out) rfl ?_
          unfold GetCPost
          rw [HN.out]
          refine ⟨A1, d1, by rw [HCS.out]; rfl, ?_, below_setRow' (VL.out.trans (L10.out.mono VL.out.size)) (by rw [G0.out]; exact Nat.le_refl _) _⟩
          exact (RQ2.out.rowFar (fun e => by have := (RQ2.out.lt _ e).1; have := GZ.out; omega) _).mono VL.out.size
        · have HN : Hid (getC l = none) := Lib.hid (by rw [GET.out, if_neg (fun h => hq h.2)])
          have hne1 : (fb.toList == s.toList) = false := by
            rw [ByteArray.toList_eq, ByteArray.toList_eq, hfb, ← HL.out]
            simpa using hq
          have hne2 : (fb.toList != s.toList) = true := by
            unfold bne
            rw [hne1]
            rfl
          clear hfb hq hm GET
          go_wp2_with (first
            | (refine wpl_loadS rfl 33 (.tmp 8) rfl ⟨V.heap.size, 0, none⟩ rfl cs Tryz.isAgg33 IC.out (fun j u hu => by rw [addr_row _ rfl, Nat.zero_add]; exact BK.out.cell j u hu) ?_)
            | (go_at_call 13; refine CPT.out.mono ?_; rintro e w10 ⟨rfl, h10⟩; have L10 := Lib.hid (LW.out.trans (h10.mono LW.out.size)); clear h10; have R10 := Lib.hid (VR.out.below L10.out))
            | (refine wpl_build rfl 33 _ rfl zeroC (by kernel_rfl) ?_)
            | (refine wpl_storeS rfl 33 (.tmp 2) _ rfl g0 zeroC rfl rfl 33 zeroC R10.out infoZC rfl (comL_one _ _ _ _) ?_))
          refine bodyPost_ret (res_rowS2 rfl _ _ g0 33 zeroC _ rfl (R10.out.row _) Tryz.underlying33 rfl infoZC) rfl ?_
          unfold GetCPost
          rw [HN.out]
          exact ⟨rfl, below_setRow' (VL.out.trans (L10.out.mono VL.out.size)) (by rw [G0.out]; exact Nat.le_refl _) _⟩
end Go.Proofs.YtcomibocajjhoaaGreatDoor
