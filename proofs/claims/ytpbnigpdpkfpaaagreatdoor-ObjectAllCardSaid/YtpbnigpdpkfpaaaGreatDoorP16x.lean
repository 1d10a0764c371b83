/- Objects as cells; object.May: may it be an object? object.Get: an object from bytes: what it tells; a blob; no kind. object.May: a tree. Trees as objects: Put, Id, Links. object.Links of a tree: its entries' names. object.Get: a tree. object.Eq: are two objects the same? colporteurlaw6.begun: the plain facts. Commits in the laws' walks: what holds of one that was read; two of them, cut, in blocks of their own. colporteurlaw6.Object: an object cut. (printed by wip/genOj.py) An object in a variable of the law's own, cut, set: what its block holds. object.Get: a commit; all of it. Objects whose rows are the call's own; what is read of bytes keeps to the bounds. ref5.Put: an object's bytes, where it may be. ref5.Id: an object's name, where it may be. ref5.Links: what an object that may be names. (printed by wip/genRl.py) ref5.Eq: are two objects the same? -/
import Derived.Test.YtpbnigpdpkfpaaaGreatDoorP12x
import Derived.Test.YtpbnigpdpkfpaaaGreatDoorCe
import Derived.Test.YtpbnigpdpkfpaaaGreatDoorP14x
import Derived.Test.YtpbnigpdpkfpaaaGreatDoorPt
import Derived.Test.YtpbnigpdpkfpaaaGreatDoorBe
import Derived.Test.YtpbnigpdpkfpaaaGreatDoorP15x
import Derived.Test.YtpbnigpdpkfpaaaGreatDoorP9x
import Derived.Test.YtpbnigpdpkfpaaaGreatDoorP13x
import Derived.Test.YtpbnigpdpkfpaaaGreatDoorP8x
import Derived.Test.YtpbnigpdpkfpaaaGreatDoorP17x
import Derived.Test.YtpbnigpdpkfpaaaGreatDoorP18x
import Derived.Test.YtpbnigpdpkfpaaaGreatDoorP7x
import Derived.Test.YtpbnigpdpkfpaaaGreatDoorEe
namespace Go.Proofs.YtpbnigpdpkfpaaaGreatDoor
open Go.RowKit
/-- Where an object's fields lie. -/
structure ObBlk (w : World) (g : Nat) (o : Obt) (A : Option Addr) (n k : Nat) (B : Option Addr) (m d : Nat) (bb : ByteArray) : Prop where
  blk : Blk w g 30 (objL o A n k B m d)
  kd : w.cell? ⟨g, 0, none⟩ = some (.int .i64 o.kd)
  blob : w.cell? ⟨g, 1, none⟩ = some (.string bb)
  ents : w.cell? ⟨g, 2, none⟩ = some (.slice A n k)
  com : ∀ j v, (comL o.com B m d)[j]? = some v → w.cell? ((⟨g, 3, none⟩ : Addr).add j) = some v
theorem ObBlk.of {w : World} {g : Nat} {o : Obt} {A : Option Addr} {n k : Nat} {B : Option Addr} {m d : Nat} (h : Blk w g 30 (objL o A n k B m d)) : ObBlk w g o A n k B m d ⟨o.blob.toArray⟩ :=
  ⟨h, h.cell 0 _ rfl, h.cell 1 _ rfl, h.cell 2 _ rfl, fun j v hv => by
    rw [addr_row _ rfl]
    refine h.cell (3 + j) v ?_
    unfold objL
    rw [List.getElem?_append_right (by simp)]
    simpa using hv⟩
theorem ObBlk.below {w w' : World} {g : Nat} {o : Obt} {A : Option Addr} {n k : Nat} {B : Option Addr} {m d : Nat} {bb : ByteArray} (h : ObBlk w g o A n k B m d bb) (hb : Below w.heap.size w w') : ObBlk w' g o A n k B m d bb := by
  have hg := h.blk.lt
  have key : ∀ j v, w.cell? ⟨g, j, none⟩ = some v → w'.cell? ⟨g, j, none⟩ = some v := fun j v hv => (hb.cell (p := ⟨g, j, none⟩) hg).trans hv
  exact ⟨h.blk.below hb, key _ _ h.kd, key _ _ h.blob, key _ _ h.ents, fun j v hv => by
    have := h.com j v hv
    rw [addr_row _ rfl] at this ⊢
    exact key _ _ this⟩
theorem infoO (o : Obt) (A : Option Addr) (n k : Nat) (B : Option Addr) (m d : Nat) : (Tryz.prog.info? 30).map (·.size) = some (objL o A n k B m d).length := by
  have h : (Tryz.prog.info? 30).map (·.size) = some 38 := by kernel_rfl
  rw [h, objL_len]
theorem objL_one (o : Obt) (A : Option Addr) (n k : Nat) (B : Option Addr) (m d : Nat) : ∀ v ∈ objL o A n k B m d, v.oneCell' = true := by
  intro v hv
  simp only [objL, List.mem_append, List.mem_cons, List.not_mem_nil, or_false] at hv
  rcases hv with (rfl | rfl | rfl) | h
  · rfl
  · rfl
  · rfl
  · exact comL_one _ _ _ _ v h
theorem ObAt.below {w w' : World} {o : Obt} {A : Option Addr} {n k : Nat} {B : Option Addr} {m d : Nat} (h : ObAt w o A n k B m d) (hb : Below w.heap.size w w') : ObAt w' o A n k B m d :=
  ⟨entE.src_below h.row hb, h.cap, h.max, h.names, h.blob, h.com.below hb⟩
theorem ObAt.len {w : World} {o : Obt} {A : Option Addr} {n k : Nat} {B : Option Addr} {m d : Nat} (h : ObAt w o A n k B m d) : o.ents.length = n := entE.src_len h.row
theorem noComAt (w : World) : ComAt w noCom none 0 0 := ⟨⟨rfl, fun h => absurd h (Nat.lt_irrefl 0), fun u hu => by cases hu⟩, Nat.le_refl _, Nat.zero_le _, Nat.zero_lt_succ _, Nat.zero_le _⟩
theorem zCv_eq : (Value.agg #[.int .u8 0, .int .u8 0, .int .u8 0, .int .u8 0, .int .u8 0, .int .u8 0, .int .u8 0, .int .u8 0, .int .u8 0, .int .u8 0, .int .u8 0, .int .u8 0, .int .u8 0, .int .u8 0, .int .u8 0, .int .u8 0, .int .u8 0, .int .u8 0, .int .u8 0, .int .u8 0, .int .u8 0, .int .u8 0, .int .u8 0, .int .u8 0, .int .u8 0, .int .u8 0, .int .u8 0, .int .u8 0, .int .u8 0, .int .u8 0, .int .u8 0, .int .u8 0, .slice none 0 0, .float .f64 0, .string ⟨#[]⟩] : Value) = .agg zeroC.toArray := by kernel_rfl
theorem empty_blob (l : List UInt8) (s : ByteArray) (h : s = ⟨l.toArray⟩) : (s.toList == []) = decide (l = []) ∧ s.toList.isEmpty = decide (l = []) := by
  rw [ByteArray.toList_eq, h]
  cases l <;> simp
theorem empty_ents (l : List Ent) (n : Nat) (h : l.length = n) : ((n : Int) == 0) = decide (l = []) := by
  cases l with
  | nil => simp at h; subst h; simp
  | cons x r =>
    simp at h
    rw [decide_eq_false (by simp)]
    simp
    omega
end Go.Proofs.YtpbnigpdpkfpaaaGreatDoor
namespace Go.Proofs.YtpbnigpdpkfpaaaGreatDoor
open Go.RowKit
/-- An object of noughts. -/
def zeroO : List Value := objL noOb none 0 0 none 0 0
theorem builtO : BuiltAs Tryz.prog 30 zeroO [(0, 1), (1, 1), (2, 1), (3, 35)] := fun parts => by
  obtain ⟨it, hi, hz⟩ : ∃ it, Tryz.prog.info? 30 = some it ∧ it.zero.map Value.cells = some zeroO.toArray := by
    have h : (Tryz.prog.info? 30).map (fun it => it.zero.map Value.cells) = some (some zeroO.toArray) := by kernel_rfl
    exact Option.map_eq_some_iff.1 h
  exact built_fill _ _ _ it hi Tryz.underlying30 hz (by kernel_rfl)
theorem built_kindO (k : Int) : Tryz.prog.built 30 [(0, .int .i64 k)] = some (objL ⟨k, [], [], noCom⟩ none 0 0 none 0 0).toArray := by
  rw [builtO, fill_one _ _ 0 _ _ 0 [.int .i64 k] rfl (by simp) (by simp [zeroO, objL_len]), Instr.fill]
  simp [zeroO, objL, noOb]
theorem built_treeO (k : Int) (A : Option Addr) (n c : Nat) (es : List Ent) : Tryz.prog.built 30 [(0, .int .i64 k), (2, .slice A n c)] = some (objL ⟨k, [], es, noCom⟩ A n c none 0 0).toArray := by
  rw [builtO, fill_one _ _ 0 _ _ 0 [.int .i64 k] rfl (by simp) (by simp [zeroO, objL_len]), fill_one _ _ 2 _ _ 2 [.slice A n c] rfl (by simp) (by simp [zeroO, objL]), Instr.fill]
  simp [zeroO, objL, noOb]
theorem infoZO : (Tryz.prog.info? 30).map (·.size) = some zeroO.length := infoO _ _ _ _ _ _ _
theorem zeroO_one : ∀ v ∈ zeroO, v.oneCell' = true := objL_one _ _ _ _ _ _ _
/-- What object.Get tells. -/
def GetOPost (W : World) (k : Int) (l : List UInt8) (e : Ending) (W' : World) : Prop := Below W.heap.size W W' ∧
  if (getO k l).2 = 0 then ∃ A c B d, e = .returned (.tuple #[.agg (objL (getO k l).1 A (getO k l).1.ents.length c B (getO k l).1.com.ps.length d).toArray, .int .i64 0]) ∧
      RowQ W' W.heap.size 99 34 (.slice A (getO k l).1.ents.length c) (getO k l).1.ents.length (entE.row (getO k l).1.ents) ∧
      RowQ W' W.heap.size 24 32 (.slice B (getO k l).1.com.ps.length d) (getO k l).1.com.ps.length (rowI (getO k l).1.com.ps)
  else e = .returned (.tuple #[.agg zeroO.toArray, .int .i64 (getO k l).2])
theorem getO_err {W W' : World} {k : Int} {l : List UInt8} {e : Ending} {c : Int} (h : getO k l = (noOb, c)) (hc : c ≠ 0) (he : e = .returned (.tuple #[.agg zeroO.toArray, .int .i64 c])) (hb : Below W.heap.size W W') : GetOPost W k l e W' := by
  refine ⟨hb, ?_⟩
  rw [h, if_neg hc]
  exact he
theorem getO_ok {W W' : World} {k : Int} {l : List UInt8} {e : Ending} {o : Obt} (h : getO k l = (o, 0)) (A : Option Addr) (c : Nat) (B : Option Addr) (d : Nat) (he : e = .returned (.tuple #[.agg (objL o A o.ents.length c B o.com.ps.length d).toArray, .int .i64 0]))
    (h1 : RowQ W' W.heap.size 99 34 (.slice A o.ents.length c) o.ents.length (entE.row o.ents)) (h2 : RowQ W' W.heap.size 24 32 (.slice B o.com.ps.length d) o.com.ps.length (rowI o.com.ps)) (hb : Below W.heap.size W W') : GetOPost W k l e W' := by
  refine ⟨hb, ?_⟩
  rw [h, if_pos rfl]
  exact ⟨A, c, B, d, he, h1, h2⟩
/-- The result's variable, the object's. -/
structure GtO (W w : World) (g0 g1 : Nat) (cs : List Value) : Prop where
  res : Blk w g0 30 zeroO
  cur : Blk w g1 30 cs
  low : Below W.heap.size W w
  p0 : W.heap.size ≤ g0
  p1 : W.heap.size ≤ g1
  ne : g0 ≠ g1
theorem GtO.start (W : World) (k : Int) : GtO W (((W.alloc (.cells zeroO.toArray 30)).alloc (.cells zeroO.toArray 30)).setRow (W.heap.size + 1) (objL ⟨k, [], [], noCom⟩ none 0 0 none 0 0).toArray) W.heap.size (W.heap.size + 1) (objL ⟨k, [], [], noCom⟩ none 0 0 none 0 0) := by
  have z1 := Blk.new (W.alloc (.cells zeroO.toArray 30)) 30 zeroO
  rw [hsz] at z1
  exact ⟨((Blk.new W 30 zeroO).alloc _).rowFar (by omega) _, z1.row _, below_setRow' (((Below.refl _ _).alloc (Nat.le_refl _) _).alloc (by rw [hsz]; omega) _) (by omega) _, Nat.le_refl _, by omega, by omega⟩
theorem GtO.below {W w w' : World} {g0 g1 : Nat} {cs : List Value} (h : GtO W w g0 g1 cs) (hb : Below w.heap.size w w') : GtO W w' g0 g1 cs :=
  ⟨h.res.below hb, h.cur.below hb, h.low.trans (hb.mono h.low.size), h.p0, h.p1, h.ne⟩
theorem GtO.set {W w : World} {g0 g1 : Nat} {cs : List Value} (h : GtO W w g0 g1 cs) (j : Nat) (v : Value) : GtO W (w.setCell ⟨g1, j, none⟩ v) g0 g1 (cs.set j v) :=
  ⟨h.res.far h.ne _, h.cur.setCell j v, below_setCell' h.low _ _ h.p1 _, h.p0, h.p1, h.ne⟩
theorem GtO.mid {W w : World} {g0 g1 : Nat} {cs : List Value} (h : GtO W w g0 g1 cs) (vs : List Value) (o : Nat) (hl : o + vs.length ≤ cs.length) : GtO W (w.setCells g1 o vs) g0 g1 (cs.take o ++ vs ++ cs.drop (o + vs.length)) := by
  refine ⟨(heap_setCells_other g1 g0 h.ne vs o w).trans h.res, Blk.setCells vs o w _ h.cur hl, h.low.trans ⟨(setCells_os g1 vs o w).1, (setCells_os g1 vs o w).2.1, (setCells_os g1 vs o w).2.2, by rw [size_setCells]; exact Nat.le_refl _, fun k hk => heap_setCells_other g1 k (by have := h.p1; omega) _ o w⟩, h.p0, h.p1, h.ne⟩
theorem objL_com (k : Int) (c : Com) (A : Option Addr) (m d : Nat) : (objL ⟨k, [], [], noCom⟩ none 0 0 none 0 0).take 3 ++ comL c A m d ++ (objL ⟨k, [], [], noCom⟩ none 0 0 none 0 0).drop (3 + (comL c A m d).length) = objL ⟨k, [], [], c⟩ none 0 0 A m d := by
  rw [List.drop_of_length_le (by rw [objL_len, comL_len]; omega), List.append_nil]
  unfold objL
  rfl
set_option maxRecDepth 20000 in
set_option maxHeartbeats 6400000 in
theorem objGet_1 (W : World) (k : Int) (s : ByteArray) (l : List UInt8) (hl : l = s.data.toList) (_hs : s.size < 4294967281) (_hG : Gl W) (_hE : Ge W) (hk : k = 1) : Calls Tryz.prog 24 #[.int .i64 k, .string s] W (GetOPost W k l) := by
  have hls : l.length = s.size := by rw [hl, ← ba_size]
  have I0 := GtO.start W k
  have bu := built_kindO k
  have io := infoO ⟨k, [], [], noCom⟩ none 0 0 none 0 0
  have lo := objL_len ⟨k, [], [], noCom⟩ none 0 0 none 0 0
  have oo := objL_one ⟨k, [], [], noCom⟩ none 0 0 none 0 0
  obtain ⟨c0, hc0⟩ : ∃ c0, c0 = objL ⟨k, [], [], noCom⟩ none 0 0 none 0 0 := ⟨_, rfl⟩
  rw [← hc0] at I0 bu io lo oo
  have HC0 := Lib.hid hc0
  have BU := Lib.hid bu
  have IO := Lib.hid io
  have LO := Lib.hid lo
  have OO := Lib.hid oo
  obtain ⟨w1, hw1⟩ : ∃ w1, w1 = W.alloc (.cells zeroO.toArray 30) := ⟨_, rfl⟩
  have hz1 : w1.heap.size = W.heap.size + 1 := by rw [hw1, hsz]
  rw [← hw1] at I0
  have KI := Lib.hid I0
  have HW1 := Lib.hid hw1
  have HZ1 := Lib.hid hz1
  have HL := Lib.hid hl
  have HLS := Lib.hid hls
  subst hk
  clear _hs _hG _hE hl hls bu io lo oo hc0 I0 hw1 hz1
  go_enter Tryz.func24, Tryz.ntmps24
  go_upto_region 1 with fail
  change Code.wp _ _ _ _ (W.alloc (.cells zeroO.toArray 30))
  rw [← HW1.out]
  go_upto_region 2 with (first
    | (refine wpl_buildP rfl 30 _ rfl c0 BU.out ?_)
    | (refine wpl_storeS rfl 30 (.tmp 6) _ rfl w1.heap.size c0 rfl rfl 30 zeroO (Blk.new w1 _ _) IO.out (by rw [LO.out]; rfl) OO.out ?_))
  change Code.wp _ _ _ _ ((w1.alloc (.cells zeroO.toArray 30)).setRow w1.heap.size c0.toArray)
  rw [HZ1.out]
  generalize (w1.alloc (.cells zeroO.toArray 30)).setRow (W.heap.size + 1) c0.toArray = v0 at KI ⊢
  obtain ⟨g1, hg1⟩ : ∃ g1, g1 = W.heap.size + 1 := ⟨_, rfl⟩
  rw [← hg1] at KI
  rw [← hg1]
  obtain ⟨g0, hg0⟩ : ∃ g0, g0 = W.heap.size := ⟨_, rfl⟩
  rw [← hg0] at KI
  rw [← hg0]
  have HG0 := Lib.hid hg0
  clear hg0 hg1 HW1 HZ1 BU
  obtain ⟨⟨v1, hc1⟩, hf1⟩ : (∃ v, v0.cell? ⟨g1, 1, none⟩ = some v) ∧ v0.frozen? ⟨g1, 1, none⟩ = false := ⟨⟨_, KI.out.cur.cell 1 _ (List.getElem?_eq_getElem (by rw [LO.out]; omega))⟩, KI.out.cur.frozen 1⟩
  have K2 : Hid (GtO W (v0.setCell ⟨g1, 1, none⟩ (.string s)) g0 g1 (objL ⟨1, l, [], noCom⟩ none 0 0 none 0 0)) := Lib.hid (by
    have := KI.out.set 1 (.string s)
    rw [HC0.out] at this
    have e : s = ⟨l.toArray⟩ := ba_back s l HL.out
    rw [e] at this ⊢
    exact this)
  have ls := HLS.out
  by_cases hz : l.length ≤ 1000
  · have iz : ¬ ((1000 : Int) < (s.size : Int)) := by omega
    have hget := Lib.hid (show getO 1 l = (⟨1, l, [], noCom⟩, 0) by unfold getO; rw [if_pos rfl, if_pos hz])
    have i2 := Lib.hid (infoO ⟨1, l, [], noCom⟩ none 0 0 none 0 0)
    have l2 := Lib.hid (objL_len ⟨1, l, [], noCom⟩ none 0 0 none 0 0)
    have o2 := Lib.hid (objL_one ⟨1, l, [], noCom⟩ none 0 0 none 0 0)
    obtain ⟨c2, hc2⟩ : ∃ c2, c2 = objL ⟨1, l, [], noCom⟩ none 0 0 none 0 0 := ⟨_, rfl⟩
    rw [← hc2] at K2 i2 l2 o2
    have HC2 := Lib.hid hc2
    clear hz ls hc2
    go_wp2_with (first
      | (refine wpl_loadS rfl 30 (.tmp 6) rfl ⟨g1, 0, none⟩ rfl c2 Tryz.isAgg30 i2.out (fun j u hu => by rw [addr_row _ rfl, Nat.zero_add]; exact K2.out.cur.cell j u hu) ?_)
      | (refine wpl_storeS rfl 30 (.tmp 4) _ rfl g0 c2 rfl rfl 30 zeroO K2.out.res i2.out (by rw [l2.out]; rfl) o2.out ?_))
    refine bodyPost_ret (res_rowS2 rfl _ _ g0 30 c2 _ rfl (K2.out.res.row _) Tryz.underlying30 rfl i2.out) rfl ?_
    exact getO_ok hget.out none 0 none 0 (by rw [HC2.out]; rfl) (RowQ.nil _ _ _ _) (RowQ.nil _ _ _ _) (below_setRow' K2.out.low K2.out.p0 _)
  · have iz : (1000 : Int) < (s.size : Int) := by omega
    have hget := Lib.hid (show getO 1 l = (noOb, 5) by unfold getO; rw [if_pos rfl, if_neg hz])
    clear hz ls
    go_wp2_with (first
      | (refine wpl_build rfl 30 _ rfl zeroO (by kernel_rfl) ?_)
      | (refine wpl_storeS rfl 30 (.tmp 4) _ rfl g0 zeroO rfl rfl 30 zeroO K2.out.res infoZO rfl zeroO_one ?_))
    refine bodyPost_ret (res_rowS2 rfl _ _ g0 30 zeroO _ rfl (K2.out.res.row _) Tryz.underlying30 rfl infoZO) rfl ?_
    exact getO_err hget.out (by decide) rfl (below_setRow' K2.out.low K2.out.p0 _)
set_option maxRecDepth 20000 in
set_option maxHeartbeats 6400000 in
theorem objGet_0 (W : World) (k : Int) (s : ByteArray) (l : List UInt8) (hl : l = s.data.toList) (_hs : s.size < 4294967281) (_hG : Gl W) (_hE : Ge W) (hk : k ≠ 1 ∧ k ≠ 2 ∧ k ≠ 3) : Calls Tryz.prog 24 #[.int .i64 k, .string s] W (GetOPost W k l) := by
  have hls : l.length = s.size := by rw [hl, ← ba_size]
  have I0 := GtO.start W k
  have bu := built_kindO k
  have io := infoO ⟨k, [], [], noCom⟩ none 0 0 none 0 0
  have lo := objL_len ⟨k, [], [], noCom⟩ none 0 0 none 0 0
  have oo := objL_one ⟨k, [], [], noCom⟩ none 0 0 none 0 0
  obtain ⟨c0, hc0⟩ : ∃ c0, c0 = objL ⟨k, [], [], noCom⟩ none 0 0 none 0 0 := ⟨_, rfl⟩
  rw [← hc0] at I0 bu io lo oo
  have HC0 := Lib.hid hc0
  have BU := Lib.hid bu
  have IO := Lib.hid io
  have LO := Lib.hid lo
  have OO := Lib.hid oo
  obtain ⟨w1, hw1⟩ : ∃ w1, w1 = W.alloc (.cells zeroO.toArray 30) := ⟨_, rfl⟩
  have hz1 : w1.heap.size = W.heap.size + 1 := by rw [hw1, hsz]
  rw [← hw1] at I0
  have KI := Lib.hid I0
  have HW1 := Lib.hid hw1
  have HZ1 := Lib.hid hz1
  have HL := Lib.hid hl
  have HLS := Lib.hid hls
  have hget := Lib.hid (show getO k l = (noOb, 1) by unfold getO; rw [if_neg hk.1, if_neg hk.2.1, if_neg hk.2.2])
  have f1 : (k == (1 : Int)) = false := by simpa using hk.1
  have f2 : (k == (2 : Int)) = false := by simpa using hk.2.1
  have f3 : (k == (3 : Int)) = false := by simpa using hk.2.2
  clear hk
  clear _hs _hG _hE hl hls bu io lo oo hc0 I0 hw1 hz1
  go_enter Tryz.func24, Tryz.ntmps24
  go_upto_region 1 with fail
  change Code.wp _ _ _ _ (W.alloc (.cells zeroO.toArray 30))
  rw [← HW1.out]
  go_upto_region 2 with (first
    | (refine wpl_buildP rfl 30 _ rfl c0 BU.out ?_)
    | (refine wpl_storeS rfl 30 (.tmp 6) _ rfl w1.heap.size c0 rfl rfl 30 zeroO (Blk.new w1 _ _) IO.out (by rw [LO.out]; rfl) OO.out ?_))
  change Code.wp _ _ _ _ ((w1.alloc (.cells zeroO.toArray 30)).setRow w1.heap.size c0.toArray)
  rw [HZ1.out]
  generalize (w1.alloc (.cells zeroO.toArray 30)).setRow (W.heap.size + 1) c0.toArray = v0 at KI ⊢
  obtain ⟨g1, hg1⟩ : ∃ g1, g1 = W.heap.size + 1 := ⟨_, rfl⟩
  rw [← hg1] at KI
  rw [← hg1]
  obtain ⟨g0, hg0⟩ : ∃ g0, g0 = W.heap.size := ⟨_, rfl⟩
  rw [← hg0] at KI
  rw [← hg0]
  have HG0 := Lib.hid hg0
  clear hg0 hg1 HW1 HZ1 BU
  go_wp2_with (first
    | (refine wpl_build rfl 30 _ rfl zeroO (by kernel_rfl) ?_)
    | (refine wpl_storeS rfl 30 (.tmp 4) _ rfl g0 zeroO rfl rfl 30 zeroO KI.out.res infoZO rfl zeroO_one ?_))
  refine bodyPost_ret (res_rowS2 rfl _ _ g0 30 zeroO _ rfl (KI.out.res.row _) Tryz.underlying30 rfl infoZO) rfl ?_
  exact getO_err hget.out (by decide) rfl (below_setRow' KI.out.low KI.out.p0 _)
end Go.Proofs.YtpbnigpdpkfpaaaGreatDoor
namespace Go.Proofs.YtpbnigpdpkfpaaaGreatDoor
open Go.RowKit
set_option maxRecDepth 20000 in
set_option maxHeartbeats 16000000 in
theorem objMay_2 (W : World) (o : Obt) (A : Option Addr) (n k : Nat) (B : Option Addr) (m d : Nat) (h : ObAt W o A n k B m d) (hn : n ≤ 1099511627776) (hm : m ≤ 1099511627776) (hkd0 : o.kd = 2) :
    Calls Tryz.prog 21 #[.agg (objL o A n k B m d).toArray] W fun e W' => e = .returned (.bool (mayO o)) ∧ Below W.heap.size W W' := by
  obtain ⟨bb, hbb⟩ : ∃ bb : ByteArray, bb = ⟨o.blob.toArray⟩ := ⟨_, rfl⟩
  obtain ⟨hp1, hp2⟩ := empty_blob o.blob bb hbb
  have hp3 := empty_ents o.ents n h.len
  have hbz : o.blob.length = bb.size := by rw [hbb, ba_size]
  obtain ⟨r, hr⟩ : ∃ r, r = mayO o := ⟨_, rfl⟩
  rw [← hr]
  unfold mayO at hr
  rw [hbz] at hr
  have l0 := (Below.refl W.heap.size W).alloc (Nat.le_refl _) (.cells (objL o A n k B m d).toArray 30)
  have k0 := ObBlk.of (Blk.new W 30 (objL o A n k B m d))
  rw [← hbb] at k0
  obtain ⟨w0, hw0⟩ : ∃ w0, w0 = W.alloc (.cells (objL o A n k B m d).toArray 30) := ⟨_, rfl⟩
  rw [← hw0] at l0 k0
  have cQ : ∀ w, Below W.heap.size W w → Calls Tryz.prog 65 #[.agg (comL o.com B m d).toArray, .agg zeroC.toArray] w fun e w' => e = .returned (.bool (eqC o.com noCom)) ∧ Below w.heap.size w w' := fun w hw => commitEq_any w o.com noCom B m d none 0 0 (h.com.below hw) (noComAt w) hm (by omega)
  have cT := fun w (hw : Below W.heap.size W w) => treeMay_any w A n k o.ents (entE.src_below h.row hw) hn h.names
  have cM := fun w (hw : Below W.heap.size W w) => commitMay_any w o.com B m d (h.com.below hw) hm
  have ic := infoC o.com B m d
  generalize eqC o.com noCom = pc at cQ hr
  generalize decide (o.blob = []) = pb at hp1 hp2 hr
  generalize decide (o.ents = []) = pt at hp3 hr
  generalize mayT o.ents = pm at cT hr
  generalize mayC o.com = pn at cM hr
  obtain ⟨g, hg⟩ : ∃ g, g = W.heap.size := ⟨_, rfl⟩
  rw [← hg] at k0
  have L0 := Lib.hid l0
  have K0 := Lib.hid k0
  have HW : Hid (∀ w, Below w0.heap.size w0 w → Below W.heap.size W w) := Lib.hid fun w hw => l0.trans (hw.mono l0.size)
  have CQ : Hid (∀ s : Ext w0, Calls Tryz.prog 65 #[.agg (comL o.com B m d).toArray, .agg zeroC.toArray] s.at_ fun e w' => e = .returned (.bool pc) ∧ Below s.at_.heap.size s.at_ w') := Lib.hid fun s => cQ _ (HW.out _ s.below)
  have CT := Lib.hid cT
  have CM := Lib.hid cM
  have IC := Lib.hid ic
  have x0 : ∀ s : Ext w0, s.at_.cell? ⟨g, 1, none⟩ = some (.string bb) := fun s => (k0.below s.below).blob
  have x1 : ∀ s : Ext w0, s.at_.cell? ⟨g, 2, none⟩ = some (.slice A n k) := fun s => (k0.below s.below).ents
  have XC : Hid (∀ w', (∃ s : Ext w0, w' = s.at_) → ∀ j v, (comL o.com B m d)[j]? = some v → w'.cell? ((⟨g, 3, none⟩ : Addr).add j) = some v) := Lib.hid fun w' ⟨s, hw⟩ j v hv => by rw [hw]; exact (k0.below s.below).com j v hv
  have zV := zCv_eq
  obtain ⟨zC, hzC⟩ : ∃ zC, zC = zeroC := ⟨_, rfl⟩
  rw [← hzC] at zV CQ
  clear hzC
  obtain ⟨cs, hcs⟩ : ∃ cs, cs = objL o A n k B m d := ⟨_, rfl⟩
  obtain ⟨cc, hcc⟩ : ∃ cc, cc = comL o.com B m d := ⟨_, rfl⟩
  rw [← hcs] at hw0 ⊢
  rw [← hcc] at CQ CM IC XC
  have KC : Hid (∀ w, Below w0.heap.size w0 w → ∀ j v, cc[j]? = some v → w.cell? ((⟨g, 3, none⟩ : Addr).add j) = some v) := Lib.hid fun w hw j v hv => (K0.out.below hw).com j v (by rw [← hcc]; exact hv)
  have KK : Hid (∀ w, Below w0.heap.size w0 w → w.cell? ⟨g, 0, none⟩ = some (.int .i64 o.kd) ∧ w.cell? ⟨g, 1, none⟩ = some (.string bb) ∧ w.cell? ⟨g, 2, none⟩ = some (.slice A n k)) := Lib.hid fun w hw => ⟨(K0.out.below hw).kd, (K0.out.below hw).blob, (K0.out.below hw).ents⟩
  obtain ⟨kd, hkd⟩ : ∃ kd, kd = o.kd := ⟨_, rfl⟩
  rw [← hkd] at KK hr hkd0
  have HR := Lib.hid hr
  clear h hn hm hbb hbz hr l0 k0 cQ cT cM ic hcs hcc K0 hkd
  go_enter Tryz.func21, Tryz.ntmps21
  go_upto_region 1 with fail
  change Code.wp _ _ _ _ (W.alloc (.cells cs.toArray 30))
  rw [← hw0, ← hg]
  clear hw0 hg
  have hemp := ext_nonempty w0
  refine wp_region_ext (by kernel_rfl) (by kernel_rfl) ?_
  repeat (first
    | quiet_step (fail)
    | go_big_quiet_step (fail)
    | (refine wpQuiet_loadS (by rfl) 28 (.tmp 13) rfl ⟨g, 3, none⟩ rfl cc Tryz.isAgg28 IC.out XC.out ?_)
    | quiet_step ((go_at_call 65; exact Ext.call (CQ.out _))))
  refine wpQuiet_nil ?_
  rintro _ ⟨s9, rfl⟩
  have L1 := Lib.hid s9.below
  generalize s9.at_ = w1 at L1 ⊢
  have LW := Lib.hid (HW.out _ L1.out)
  obtain ⟨y0, y1, y2⟩ := KK.out _ L1.out
  clear x0 x1 hp1 hp2 hp3 CQ XC hemp KK
  have e2 := hkd0
  clear hkd0
  subst e2
  have h1 := HR.out
  rw [if_neg (by omega), if_pos rfl] at h1
  have H1 := Lib.hid h1
  clear HR h1
  cases pb
  · have H2 := Lib.hid (show r = false from H1.out)
    go_wp2
    go_ret
    exact ⟨by rw [H2.out]; rfl, LW.out⟩
  · cases pc
    · have H2 := Lib.hid (show r = false from H1.out)
      go_wp2
      go_ret
      exact ⟨by rw [H2.out]; rfl, LW.out⟩
    · have H2 := Lib.hid (show r = pm from H1.out)
      go_wp2_with (go_at_call 71; refine (CT.out _ LW.out).mono ?_; rintro e w2 ⟨rfl, h2⟩; have B2 := Lib.hid h2; clear h2)
      go_ret
      exact ⟨by rw [H2.out]; rfl, LW.out.trans (B2.out.mono LW.out.size)⟩
end Go.Proofs.YtpbnigpdpkfpaaaGreatDoor
namespace Go.Proofs.YtpbnigpdpkfpaaaGreatDoor
open Go.RowKit
theorem treePut_fit (es : List Ent) (h : mayT es = true) : putV es = .tuple #[.string ⟨(treeB es).toArray⟩, .bool true] := by unfold putV; rw [h]; rfl
/-- What object.Put tells. -/
def putOV (o : Obt) : Value := .tuple #[.string ⟨(bif mayO o then putO o else []).toArray⟩, .bool (mayO o)]
theorem putO_size (o : Obt) (hb : o.com.wh < 18446744073709551616) (h : mayO o = true) : (putO o).length ≤ 2000 := by
  unfold mayO at h
  unfold putO
  by_cases e1 : o.kd = 1
  · rw [if_pos e1] at h
    simp only [Bool.and_eq_true, decide_eq_true_eq] at h
    rw [if_neg (by omega), if_neg (by omega)]
    omega
  · rw [if_neg e1] at h
    by_cases e2 : o.kd = 2
    · rw [if_pos e2] at h
      simp only [Bool.and_eq_true] at h
      rw [if_pos e2]
      have h1 := mayT_len h.2
      have h2 := treeB_len o.ents fun e he => by
        obtain ⟨j, hj, rfl⟩ := List.getElem_of_mem he
        have := nameB_len (mayT_name h.2 j hj)
        rwa [getElem!_pos o.ents j hj] at this
      omega
    · rw [if_neg e2] at h
      by_cases e3 : o.kd = 3
      · rw [if_pos e3] at h
        simp only [Bool.and_eq_true] at h
        have hc := h.2
        rw [if_neg e2, if_pos e3]
        unfold mayC at hc
        simp only [Bool.and_eq_true, decide_eq_true_eq] at hc
        have ht := o.com.tree.2
        have hw := wput_len hb hc.2
        unfold commitB
        simp only [List.length_append, hexL_length, parsB_len, treeW, whenW, List.length_cons, List.length_nil]
        omega
      · rw [if_neg e3] at h
        cases h
set_option maxRecDepth 20000 in
set_option maxHeartbeats 6400000 in
theorem objPut_tree (W : World) (o : Obt) (A : Option Addr) (n k : Nat) (B : Option Addr) (m d : Nat) (h : ObAt W o A n k B m d) (hn : n ≤ 1099511627776) (hm : m ≤ 1099511627776) (hG : Gl W) (hk2 : o.kd = 2) (hq : mayO o = true) :
    Calls Tryz.prog 19 #[.agg (objL o A n k B m d).toArray] W fun e W' => e = .returned (putOV o) ∧ Below W.heap.size W W' := by
  obtain ⟨bb, hbb⟩ : ∃ bb : ByteArray, bb = ⟨o.blob.toArray⟩ := ⟨_, rfl⟩
  have l0 := (Below.refl W.heap.size W).alloc (Nat.le_refl _) (.cells (objL o A n k B m d).toArray 30)
  have k0 := ObBlk.of (Blk.new W 30 (objL o A n k B m d))
  rw [← hbb] at k0
  obtain ⟨w0, hw0⟩ : ∃ w0, w0 = W.alloc (.cells (objL o A n k B m d).toArray 30) := ⟨_, rfl⟩
  rw [← hw0] at l0 k0
  have HW : Hid (∀ w, Below w0.heap.size w0 w → Below W.heap.size W w) := Lib.hid fun w hw => l0.trans (hw.mono l0.size)
  have cM := fun w (hw : Below W.heap.size W w) => objMay_2 w o A n k B m d (h.below hw) hn hm hk2
  have cT := fun w (hw : Below W.heap.size W w) => treePut_any w A n k o.ents (entE.src_below h.row hw) hn h.names
  have cC := fun w (hw : Below W.heap.size W w) => commitPut_any w o.com B m d (h.com.below hw) hm (hG.below hw)
  have ic := infoC o.com B m d
  have io := infoO o A n k B m d
  have L0 := Lib.hid l0
  have K0 := Lib.hid k0
  obtain ⟨g, hg⟩ : ∃ g, g = W.heap.size := ⟨_, rfl⟩
  rw [← hg] at K0
  obtain ⟨cs, hcs⟩ : ∃ cs, cs = objL o A n k B m d := ⟨_, rfl⟩
  obtain ⟨cc, hcc⟩ : ∃ cc, cc = comL o.com B m d := ⟨_, rfl⟩
  rw [← hcs] at hw0 cM io ⊢
  rw [← hcc] at ic cC
  have KC : Hid (∀ w, Below w0.heap.size w0 w → ∀ j v, cc[j]? = some v → w.cell? ((⟨g, 3, none⟩ : Addr).add j) = some v) := Lib.hid fun w hw j v hv => (K0.out.below hw).com j v (by rw [← hcc]; exact hv)
  have KO : Hid (∀ j v, cs[j]? = some v → w0.cell? ((⟨g, 0, none⟩ : Addr).add j) = some v) := Lib.hid fun j v hv => by rw [addr_row _ rfl, Nat.zero_add]; rw [hcs] at hv; exact K0.out.blk.cell j v hv
  have KK : Hid (∀ w, Below w0.heap.size w0 w → w.cell? ⟨g, 0, none⟩ = some (.int .i64 o.kd) ∧ w.cell? ⟨g, 1, none⟩ = some (.string bb) ∧ w.cell? ⟨g, 2, none⟩ = some (.slice A n k)) := Lib.hid fun w hw => ⟨(K0.out.below hw).kd, (K0.out.below hw).blob, (K0.out.below hw).ents⟩
  have IC := Lib.hid ic
  have IO := Lib.hid io
  obtain ⟨kd, hkd⟩ : ∃ kd, kd = o.kd := ⟨_, rfl⟩
  rw [← hkd] at KK
  have LW0 := Lib.hid (HW.out _ (Below.refl _ _))
  have HV : Hid (putOV o = .tuple #[.string ⟨(putO o).toArray⟩, .bool true]) := Lib.hid (by unfold putOV; rw [hq]; rfl)
  have hmay := hq
  rw [hq] at cM
  unfold mayO at hmay
  rw [← hkd] at hmay
  have CM := Lib.hid cM
  have hpo : putO o = if kd = 2 then treeB o.ents else if kd = 3 then commitB o.com else o.blob := by rw [hkd]; rfl

  have e2 : kd = 2 := by rw [hkd]; exact hk2
  subst e2
  have ht : mayT o.ents = true := by
    rw [if_neg (by omega), if_pos rfl] at hmay
    simp only [Bool.and_eq_true] at hmay
    exact hmay.2
  rw [treePut_fit _ ht] at cT
  rw [if_pos rfl] at hpo
  rw [hpo] at HV
  have CT := Lib.hid cT
  clear h hn hm hG hbb l0 k0 cM cT cC ic io hcs hcc hkd hq KC hmay ht hpo hk2
  go_enter Tryz.func19, Tryz.ntmps19
  go_upto_region 1 with fail
  change Code.wp _ _ _ _ (W.alloc (.cells cs.toArray 30))
  rw [← hw0, ← hg]
  clear hw0 hg
  go_upto_region 3 with (first
    | (refine wpl_loadS rfl 30 (.tmp 1) rfl ⟨g, 0, none⟩ rfl cs Tryz.isAgg30 IO.out KO.out ?_)
    | (go_at_call 21; refine (CM.out _ LW0.out).mono ?_; rintro e w1 ⟨rfl, h1⟩; have B1 : Hid (Below w0.heap.size w0 w1) := Lib.hid h1; clear h1))
  obtain ⟨y0, y1, y2⟩ := KK.out _ B1.out
  have LW := Lib.hid (HW.out _ B1.out)
  clear KK
  go_wp2_with (go_at_call 58; refine (CT.out _ LW.out).mono ?_; rintro e w2 ⟨rfl, h2⟩; have B2 := Lib.hid h2; clear h2)
  go_ret2
  exact ⟨by rw [HV.out]; rfl, LW.out.trans (B2.out.mono LW.out.size)⟩
/-- What object.Id tells. -/
def idOV (o : Obt) : Value := bif mayO o then .tuple #[.agg (Bs (sha256 (ofL o.kd (putO o)))).toArray, .bool true] else .tuple #[.agg zero32.toArray, .bool false]
set_option maxRecDepth 20000 in
set_option maxHeartbeats 6400000 in
theorem objId_tree (W : World) (o : Obt) (A : Option Addr) (n k : Nat) (B : Option Addr) (m d : Nat) (h : ObAt W o A n k B m d) (hn : n ≤ 1099511627776) (hm : m ≤ 1099511627776) (hG : Gl W) (hk2 : o.kd = 2) (hq : mayO o = true) :
    Calls Tryz.prog 20 #[.agg (objL o A n k B m d).toArray] W fun e W' => e = .returned (idOV o) ∧ Below W.heap.size W W' := by
  have zI := zI_eq
  have b0 := (Below.refl W.heap.size W).alloc (Nat.le_refl _) (.cells (objL o A n k B m d).toArray 30)
  have l0 := b0.alloc (by rw [hsz]; omega) (.cells zero32.toArray 24)
  have k0 := (ObBlk.of (Blk.new W 30 (objL o A n k B m d))).below ((Below.refl _ _).alloc (Nat.le_refl _) (.cells zero32.toArray 24))
  have z0 := Blk.new (W.alloc (.cells (objL o A n k B m d).toArray 30)) 24 zero32
  rw [hsz] at z0
  obtain ⟨w0, hw0⟩ : ∃ w0, w0 = (W.alloc (.cells (objL o A n k B m d).toArray 30)).alloc (.cells zero32.toArray 24) := ⟨_, rfl⟩
  rw [← hw0] at l0 k0 z0
  have HW : Hid (∀ w, Below w0.heap.size w0 w → Below W.heap.size W w) := Lib.hid fun w hw => l0.trans (hw.mono l0.size)
  have cP := objPut_tree w0 o A n k B m d (h.below l0) hn hm (hG.below l0) hk2 hq
  unfold putOV at cP
  have io := infoO o A n k B m d
  have HG := Lib.hid hG
  have K0 := Lib.hid k0
  have Z0 := Lib.hid z0
  obtain ⟨g, hg⟩ : ∃ g, g = W.heap.size := ⟨_, rfl⟩
  obtain ⟨g2, hg2⟩ : ∃ g2, g2 = W.heap.size + 1 := ⟨_, rfl⟩
  have G2 : Hid (W.heap.size ≤ g2) := Lib.hid (by omega)
  rw [← hg] at K0
  rw [← hg2] at Z0
  obtain ⟨cs, hcs⟩ : ∃ cs, cs = objL o A n k B m d := ⟨_, rfl⟩
  rw [← hcs] at hw0 cP io ⊢
  have KO : Hid (∀ j v, cs[j]? = some v → w0.cell? ((⟨g, 0, none⟩ : Addr).add j) = some v) := Lib.hid fun j v hv => by rw [addr_row _ rfl, Nat.zero_add]; rw [hcs] at hv; exact K0.out.blk.cell j v hv
  have KK : Hid (∀ w, Below w0.heap.size w0 w → w.cell? ⟨g, 0, none⟩ = some (.int .i64 o.kd)) := Lib.hid fun w hw => (K0.out.below hw).kd
  have IO := Lib.hid io
  unfold idOV
  obtain ⟨pb, hpb⟩ : ∃ pb : ByteArray, pb = ⟨(putO o).toArray⟩ := ⟨_, rfl⟩
  have hpz : pb.size ≤ 1099511627776 := by have := putO_size o h.com.bits hq; rw [hpb, ba_size]; show (putO o).length ≤ _; omega
  have cO : ∀ w, Below w0.heap.size w0 w → Calls Tryz.prog 70 #[.int .i64 o.kd, .string pb] w fun e w' => e = .returned (.agg (Bs (sha256 (ofL o.kd (putO o)))).toArray) ∧ Below w.heap.size w w' := fun w hw => by
    have := of_any w o.kd pb hpz (HG.out.below (HW.out w hw))
    have e : pb.data.toList = putO o := by rw [hpb]
    rwa [e] at this
  rw [hq] at cP ⊢
  simp only [cond_true]
  simp only [cond_true] at cP
  rw [← hpb] at cP
  have sl : (Bs (sha256 (ofL o.kd (putO o)))).length = 32 := by simp
  have so := Bs_one (sha256 (ofL o.kd (putO o)))
  generalize Bs (sha256 (ofL o.kd (putO o))) = sv at cO sl so ⊢
  generalize o.kd = kd at cO KK
  have CP := Lib.hid cP
  have CO := Lib.hid cO
  have SL := Lib.hid sl
  have SO := Lib.hid so
  clear h hn hm hG b0 l0 k0 z0 cP io hcs hq hk2 K0 hpb hpz cO sl so
  go_enter Tryz.func20, Tryz.ntmps20
  go_upto_region 1 with fail
  change Code.wp _ _ _ _ ((W.alloc (.cells cs.toArray 30)).alloc (.cells zero32.toArray 24))
  rw [← hw0, ← hg2, ← hg]
  clear hw0 hg hg2
  go_wp2_with (first
    | (refine wpl_loadS rfl 30 (.tmp 1) rfl ⟨g, 0, none⟩ rfl cs Tryz.isAgg30 IO.out KO.out ?_)
    | (go_at_call 19; refine CP.out.mono ?_; rintro e w1 ⟨rfl, h1⟩; have B1 := Lib.hid h1; have Z1 := Lib.hid (Z0.out.below h1); have y0 := KK.out _ h1; clear h1)
    | (go_at_call 70; refine (CO.out _ B1.out).mono ?_; rintro e w2 ⟨rfl, h2⟩; have B2 := Lib.hid (B1.out.trans (h2.mono B1.out.size)); have Z2 := Lib.hid (Z1.out.below h2); clear h2)
    | (refine wpl_store rfl 24 (.tmp 2) _ rfl g2 sv rfl rfl 24 zero32 Z2.out (by rw [Tryz.sizeId, SL.out]) (by rw [SL.out]; simp [zero32]) SO.out ?_))
  refine bodyPost_ret (res_row2 rfl _ _ g2 24 sv 32 5 rfl (Z2.out.row _) Tryz.underlying24 (by rw [Tryz.sizeId, SL.out])) rfl ?_
  exact ⟨rfl, below_setRow' (HW.out _ B2.out) G2.out _⟩
end Go.Proofs.YtpbnigpdpkfpaaaGreatDoor
namespace Go.Proofs.YtpbnigpdpkfpaaaGreatDoor
open Go.RowKit
/-- What object.Links tells. -/
def LinksPost (W : World) (l : List Idt) (e : Ending) (W' : World) : Prop := ∃ A c, e = .returned (.slice A l.length c) ∧ RowQ W' W.heap.size 24 32 (.slice A l.length c) l.length (rowI l) ∧ Below W.heap.size W W'
theorem ids_take (es : List Ent) (k : Nat) (h : k < es.length) : (es.take (k + 1)).map (·.id) = (es.take k).map (·.id) ++ [es[k]!.id] := by
  have e : es.take (k + 1) = es.take k ++ [es[k]!] := by
    rw [List.take_add_one, getElem!_pos es k h]
    simp [h]
  rw [e, List.map_append]
  rfl
set_option maxRecDepth 20000 in
set_option maxHeartbeats 6400000 in
theorem links_tree (W : World) (o : Obt) (A : Option Addr) (n k : Nat) (B : Option Addr) (m d : Nat) (h : ObAt W o A n k B m d) (hn : n ≤ 1099511627776) (hk : o.kd = 2) :
    Calls Tryz.prog 28 #[.agg (objL o A n k B m d).toArray] W (LinksPost W (linksO o)) := by
  have hl : linksO o = o.ents.map (·.id) := by unfold linksO; rw [if_pos hk]
  rw [hl]
  have zI := zI_eq
  have LN := Lib.hid h.len
  have l0 := (Below.refl W.heap.size W).alloc (Nat.le_refl _) (.cells (objL o A n k B m d).toArray 30)
  have kb := ObBlk.of (Blk.new W 30 (objL o A n k B m d))
  obtain ⟨w0, hw0⟩ : ∃ w0, w0 = W.alloc (.cells (objL o A n k B m d).toArray 30) := ⟨_, rfl⟩
  rw [← hw0] at l0 kb
  have s0 := entE.src_below h.row l0
  have k0 := kb.kd
  have k2 := kb.ents
  rw [hk] at k0
  have L0 := Lib.hid l0
  have S0 := Lib.hid s0
  have HN := Lib.hid hn
  have n9 : (n : Int) ≤ 1099511627776 := by omega
  obtain ⟨es, hes⟩ : ∃ es, es = o.ents := ⟨_, rfl⟩
  rw [← hes] at LN S0 ⊢
  generalize objL o A n k B m d = cs at hw0 ⊢
  clear h hn hk hl l0 kb s0 hes
  go_enter Tryz.func28, Tryz.ntmps28
  go_upto_region 1 with fail
  change Code.wp _ _ _ _ (W.alloc (.cells cs.toArray 30))
  rw [← hw0]
  clear hw0
  obtain ⟨g, hg⟩ : ∃ g, g = W.heap.size := ⟨_, rfl⟩
  rw [← hg] at k0 k2
  rw [← hg]
  have G := Lib.hid hg
  clear hg
  go_wp2
  clear k0 k2
  go_loopw [3, 13] (fun v i wr => ∃ j : Nat, j ≤ n ∧ i = .int .i64 j ∧ RowQ wr w0.heap.size 24 32 v j (rowI ((es.take j).map (·.id))) ∧ Below w0.heap.size w0 wr) (fun _ i _ => n - (intOf i).toNat)
  case atStart => exact ⟨0, by omega, rfl, RowQ.nil _ _ _ _, Below.refl _ _⟩
  case round =>
    obtain ⟨j, hj, rfl, hr, hb⟩ := hrel
    obtain ⟨A1, c1, rfl, hc1, hm1⟩ := hr.shape
    have RQ := Lib.hid hr
    have BR := Lib.hid hb
    clear hr hb hc1 hm1
    by_cases hlt : j < n
    · have k1 : (j : Int) < (n : Int) := by omega
      have hln := LN.out
      obtain ⟨_, b, oo, rfl, hc⟩ := entE.src_at (entE.src_below S0.out BR.out) (by omega)
      have ce : ∀ t v, (encE es[j]!)[t]? = some v → wr.cell? ((⟨b, oo + j * 34, none⟩ : Addr).add t) = some v := entE.at_elem (hc j hlt)
      have hnx := ids_take es j (by omega)
      obtain ⟨e, he⟩ : ∃ e, e = es[j]! := ⟨_, rfl⟩
      rw [← he] at ce hnx
      have CE := Lib.hid ce
      have NX := Lib.hid hnx
      have I1 := Lib.hid (infoE e)
      have ID := Lib.hid (infoId e.id)
      have HLT := Lib.hid hlt
      clear hc ce hnx he hlt hj hln
      have low := Lib.hid (L0.out.trans (BR.out.mono L0.out.size))
      go_upto_region 7 with (first
        | (refine wpl_loadS rfl 99 (.tmp 15) rfl ⟨b, oo + j * 34, none⟩ rfl (encE e) Tryz.isAgg99 I1.out CE.out ?_)
        | (refine wpl_storeS rfl 99 (.tmp 5) _ rfl wr.heap.size (encE e) rfl rfl 99 _ (Blk.new wr _ _) I1.out (by rw [show (encE e).length = 34 from entE.len _]; rfl) (entE.one _) ?_))
      generalize hw1 : World.setRow _ _ _ = w1
      have E1 : Hid (Below wr.heap.size wr w1) := Lib.hid (by rw [← hw1]; exact (ent_laid wr e).1)
      have K1 : Hid (Blk w1 wr.heap.size 99 (encE e)) := Lib.hid (by rw [← hw1]; exact (ent_laid wr e).2)
      have R1 := Lib.hid (RQ.out.below E1.out)
      have L1 := Lib.hid (low.out.trans (E1.out.mono low.out.size))
      have B1 := Lib.hid (BR.out.trans (E1.out.mono BR.out.size))
      clear hw1 CE I1
      generalize wr.heap.size = ge at K1 ⊢
      have CI : Hid (∀ t v, (encI e.id)[t]? = some v → w1.cell? ((⟨ge, 2, none⟩ : Addr).add t) = some v) := Lib.hid fun t v hv => by
        rw [addr_row _ rfl]
        refine K1.out.cell _ v ?_
        show (encE e)[2 + t]? = some v
        rw [Nat.add_comm]
        exact hv
      go_wp2_with (first
        | (refine wpl_loadS rfl 24 (.tmp 18) rfl ⟨ge, 2, none⟩ rfl (encI e.id) Tryz.isAgg24 ID.out CI.out ?_)
        | (refine wpl_buildE idtE rfl 25 24 1 _ rfl [e.id] rfl rfl (.agg zero32.toArray) 32 Tryz.underlying25 Tryz.infoIdz (by decide) (by decide) ?_; have R2 := Lib.hid (R1.out.alloc (.cells (idtE.row [e.id]).toArray 24)); have L2 := Lib.hid (L1.out.alloc L1.out.size (.cells (idtE.row [e.id]).toArray 24)); have B2 := Lib.hid (B1.out.alloc B1.out.size (.cells (idtE.row [e.id]).toArray 24)); have S2 := Lib.hid (row_src idtE w1 24 [e.id]); generalize w1.heap.size = g2 at S2 ⊢; generalize World.alloc w1 (.cells (idtE.row [e.id]).toArray 24) = w2 at R2 L2 B2 S2 ⊢)
        | (at_builtin; refine wpl_append rfl (.tmp 17) (.tmp 20) 25 rfl w0.heap.size 24 (.agg zero32.toArray) 32 32 Tryz.underlying25 Tryz.infoIdz rfl (by decide) (.slice A1 j c1) j (rowI ((es.take j).map (·.id))) rfl R2.out (some ⟨g2, 0, none⟩) 1 1 (rowI [e.id]) rfl S2.out (by have := HN.out; have := HLT.out; omega) (by have := HN.out; have := HLT.out; omega) B2.out.size ?_; intro v3 w3 hr3 hg3 ha3; have R3 := Lib.hid hr3; have B3 : Hid (Below w0.heap.size w0 w3) := Lib.hid (B2.out.grown hg3 B2.out.size (fun k e => (R2.out.lt k e).1)); clear hr3 hg3 ha3))
      go_roundw
      case measure => simp [intOf]; have := HLT.out; omega
      case rel => exact ⟨j + 1, HLT.out, by go_num, by rw [NX.out, rowI_append]; exact R3.out, B3.out⟩
    · have : j = n := by omega
      subst this
      have hrow := RQ.out
      rw [List.take_of_length_le (by have := LN.out; omega)] at hrow
      have RW := Lib.hid hrow
      have LM := Lib.hid (show (es.map (·.id)).length = j by simp [LN.out])
      clear hrow RQ hj hlt
      go_wp2
      go_ret
      unfold LinksPost
      rw [LM.out]
      exact ⟨A1, c1, rfl, RW.out.mono L0.out.size, L0.out.trans (BR.out.mono L0.out.size)⟩
end Go.Proofs.YtpbnigpdpkfpaaaGreatDoor
namespace Go.Proofs.YtpbnigpdpkfpaaaGreatDoor
open Go.RowKit
set_option maxRecDepth 20000 in
set_option maxHeartbeats 6400000 in
theorem objGet_2 (W : World) (k : Int) (s : ByteArray) (l : List UInt8) (hl : l = s.data.toList) (hs : s.size < 4294967281) (hG : Gl W) (_hE : Ge W) (hk : k = 2) : Calls Tryz.prog 24 #[.int .i64 k, .string s] W (GetOPost W k l) := by
  have hls : l.length = s.size := by rw [hl, ← ba_size]
  have I0 := GtO.start W k
  have bu := built_kindO k
  have io := infoO ⟨k, [], [], noCom⟩ none 0 0 none 0 0
  have lo := objL_len ⟨k, [], [], noCom⟩ none 0 0 none 0 0
  have oo := objL_one ⟨k, [], [], noCom⟩ none 0 0 none 0 0
  obtain ⟨c0, hc0⟩ : ∃ c0, c0 = objL ⟨k, [], [], noCom⟩ none 0 0 none 0 0 := ⟨_, rfl⟩
  rw [← hc0] at I0 bu io lo oo
  have HC0 := Lib.hid hc0
  have BU := Lib.hid bu
  have IO := Lib.hid io
  have LO := Lib.hid lo
  have OO := Lib.hid oo
  obtain ⟨w1, hw1⟩ : ∃ w1, w1 = W.alloc (.cells zeroO.toArray 30) := ⟨_, rfl⟩
  have hz1 : w1.heap.size = W.heap.size + 1 := by rw [hw1, hsz]
  rw [← hw1] at I0
  have KI := Lib.hid I0
  have HW1 := Lib.hid hw1
  have HZ1 := Lib.hid hz1
  have HL := Lib.hid hl
  have HLS := Lib.hid hls
  subst hk
  have HG := Lib.hid hG
  have HS := Lib.hid hs
  clear hs hG _hE hl hls bu io lo oo hc0 I0 hw1 hz1
  go_enter Tryz.func24, Tryz.ntmps24
  go_upto_region 1 with fail
  change Code.wp _ _ _ _ (W.alloc (.cells zeroO.toArray 30))
  rw [← HW1.out]
  go_upto_region 2 with (first
    | (refine wpl_buildP rfl 30 _ rfl c0 BU.out ?_)
    | (refine wpl_storeS rfl 30 (.tmp 6) _ rfl w1.heap.size c0 rfl rfl 30 zeroO (Blk.new w1 _ _) IO.out (by rw [LO.out]; rfl) OO.out ?_))
  change Code.wp _ _ _ _ ((w1.alloc (.cells zeroO.toArray 30)).setRow w1.heap.size c0.toArray)
  rw [HZ1.out]
  generalize (w1.alloc (.cells zeroO.toArray 30)).setRow (W.heap.size + 1) c0.toArray = v0 at KI ⊢
  obtain ⟨g1, hg1⟩ : ∃ g1, g1 = W.heap.size + 1 := ⟨_, rfl⟩
  rw [← hg1] at KI
  rw [← hg1]
  obtain ⟨g0, hg0⟩ : ∃ g0, g0 = W.heap.size := ⟨_, rfl⟩
  rw [← hg0] at KI
  rw [← hg0]
  have HG0 := Lib.hid hg0
  clear hg0 hg1 HW1 HZ1 BU
  have cT := treeGet_any v0 s l HL.out HS.out (HG.out.below KI.out.low)
  unfold GetTPost at cT
  have lo := LO.out
  have hg : getO 2 l = match getT l with | some es => (⟨2, [], es, noCom⟩, 0) | none => (noOb, 1) := by unfold getO; rw [if_neg (by omega), if_pos rfl]; cases getT l <;> rfl
  cases hq : getT l with
  | none =>
    rw [hq] at cT hg
    simp only at cT hg
    have HGT := Lib.hid hg
    have CT := Lib.hid cT
    clear cT hg hq lo
    go_wp2_with (first
      | (go_at_call 59; refine CT.out.mono ?_; rintro e v1 ⟨rfl, h1⟩; have K1 := Lib.hid (KI.out.below h1); clear h1; obtain ⟨⟨u2, hc2⟩, hf2⟩ : (∃ v, v1.cell? ⟨g1, 2, none⟩ = some v) ∧ v1.frozen? ⟨g1, 2, none⟩ = false := ⟨⟨_, K1.out.cur.cell 2 _ (List.getElem?_eq_getElem (by rw [LO.out]; omega))⟩, K1.out.cur.frozen 2⟩; have K2 := Lib.hid (K1.out.set 2 (.slice none 0 0)))
      | (refine wpl_build rfl 30 _ rfl zeroO (by kernel_rfl) ?_)
      | (refine wpl_storeS rfl 30 (.tmp 4) _ rfl g0 zeroO rfl rfl 30 zeroO K2.out.res infoZO rfl zeroO_one ?_))
    refine bodyPost_ret (res_rowS2 rfl _ _ g0 30 zeroO _ rfl (K2.out.res.row _) Tryz.underlying30 rfl infoZO) rfl ?_
    exact getO_err HGT.out (by decide) rfl (below_setRow' K2.out.low K2.out.p0 _)
  | some es =>
    rw [hq] at cT hg
    simp only at cT hg
    have HGT := Lib.hid hg
    have CT := Lib.hid cT
    have HV := Lib.hid KI.out.low.size
    clear cT hg hq lo
    go_wp2_with (first
      | (go_at_call 59; refine CT.out.mono ?_; rintro e v1 ⟨A, c, rfl, hr, h1⟩; have K1 := Lib.hid (KI.out.below h1); have RQ := Lib.hid hr; have gq : g1 < v0.heap.size := KI.out.cur.lt; have gp : g0 < v0.heap.size := KI.out.res.lt; have N1 := Lib.hid (show (Value.slice A es.length c).ownBlock ≠ some g1 from fun e => by have := (hr.lt _ e).1; omega); have N0 := Lib.hid (show (Value.slice A es.length c).ownBlock ≠ some g0 from fun e => by have := (hr.lt _ e).1; omega); clear hr h1 gq gp; obtain ⟨⟨u2, hc2⟩, hf2⟩ : (∃ v, v1.cell? ⟨g1, 2, none⟩ = some v) ∧ v1.frozen? ⟨g1, 2, none⟩ = false := ⟨⟨_, K1.out.cur.cell 2 _ (List.getElem?_eq_getElem (by rw [LO.out]; omega))⟩, K1.out.cur.frozen 2⟩; have K2 : Hid (GtO W (v1.setCell ⟨g1, 2, none⟩ (.slice A es.length c)) g0 g1 (objL ⟨2, [], es, noCom⟩ A es.length c none 0 0)) := Lib.hid (by have := K1.out.set 2 (.slice A es.length c); rw [HC0.out] at this; exact this); have RQ2 := Lib.hid ((RQ.out.far N1.out (.slice A es.length c) (p := ⟨g1, 2, none⟩)).mono HV.out))
      | (refine wpl_loadS rfl 30 (.tmp 6) rfl ⟨g1, 0, none⟩ rfl (objL ⟨2, [], es, noCom⟩ A es.length c none 0 0) Tryz.isAgg30 (infoO _ _ _ _ _ _ _) (fun j u hu => by rw [addr_row _ rfl, Nat.zero_add]; exact K2.out.cur.cell j u hu) ?_)
      | (refine wpl_storeS rfl 30 (.tmp 4) _ rfl g0 (objL ⟨2, [], es, noCom⟩ A es.length c none 0 0) rfl rfl 30 zeroO K2.out.res (infoO _ _ _ _ _ _ _) (by rw [objL_len]; rfl) (objL_one _ _ _ _ _ _ _) ?_))
    refine bodyPost_ret (res_rowS2 rfl _ _ g0 30 (objL ⟨2, [], es, noCom⟩ A es.length c none 0 0) _ rfl (K2.out.res.row _) Tryz.underlying30 rfl (infoO _ _ _ _ _ _ _)) rfl ?_
    exact getO_ok HGT.out A c none 0 rfl (RQ2.out.rowFar N0.out _) (RowQ.nil _ _ _ _) (below_setRow' K2.out.low K2.out.p0 _)
end Go.Proofs.YtpbnigpdpkfpaaaGreatDoor
namespace Go.Proofs.YtpbnigpdpkfpaaaGreatDoor
open Go.RowKit
theorem dec_int (x y : Int) : (x == y) = decide (x = y) := by
  by_cases h : x = y <;> simp [h]
set_option maxRecDepth 20000 in
set_option maxHeartbeats 6400000 in
theorem objEq_any (W : World) (a b : Obt) (A1 : Option Addr) (n1 k1 : Nat) (B1 : Option Addr) (m1 d1 : Nat) (A2 : Option Addr) (n2 k2 : Nat) (B2 : Option Addr) (m2 d2 : Nat) (ha : ObAt W a A1 n1 k1 B1 m1 d1) (hb : ObAt W b A2 n2 k2 B2 m2 d2)
    (h1 : n1 ≤ 1099511627776) (h2 : n2 ≤ 1099511627776) (h3 : m1 ≤ 1099511627776) (h4 : m2 ≤ 1099511627776) :
    Calls Tryz.prog 22 #[.agg (objL a A1 n1 k1 B1 m1 d1).toArray, .agg (objL b A2 n2 k2 B2 m2 d2).toArray] W fun e W' => e = .returned (.bool (eqO a b)) ∧ Below W.heap.size W W' := by
  obtain ⟨ba, hba⟩ : ∃ ba : ByteArray, ba = ⟨a.blob.toArray⟩ := ⟨_, rfl⟩
  obtain ⟨bb, hbb⟩ : ∃ bb : ByteArray, bb = ⟨b.blob.toArray⟩ := ⟨_, rfl⟩
  have K1 := (ObBlk.of (Blk.new W 30 (objL a A1 n1 k1 B1 m1 d1))).below (((Below.refl _ (W.alloc (.cells (objL a A1 n1 k1 B1 m1 d1).toArray 30))).alloc (Nat.le_refl _) (.cells (objL b A2 n2 k2 B2 m2 d2).toArray 30)))
  have K2 := ObBlk.of (Blk.new (W.alloc (.cells (objL a A1 n1 k1 B1 m1 d1).toArray 30)) 30 (objL b A2 n2 k2 B2 m2 d2))
  rw [← hba] at K1
  rw [← hbb, hsz] at K2
  have l0 := ((Below.refl W.heap.size W).alloc (Nat.le_refl _) (.cells (objL a A1 n1 k1 B1 m1 d1).toArray 30)).alloc (by rw [hsz]; omega) (.cells (objL b A2 n2 k2 B2 m2 d2).toArray 30)
  obtain ⟨cs1, hcs1⟩ : ∃ cs, cs = objL a A1 n1 k1 B1 m1 d1 := ⟨_, rfl⟩
  obtain ⟨cs2, hcs2⟩ : ∃ cs, cs = objL b A2 n2 k2 B2 m2 d2 := ⟨_, rfl⟩
  obtain ⟨w0, hw0⟩ : ∃ w0, w0 = (W.alloc (.cells (objL a A1 n1 k1 B1 m1 d1).toArray 30)).alloc (.cells (objL b A2 n2 k2 B2 m2 d2).toArray 30) := ⟨_, rfl⟩
  rw [← hw0] at K1 K2 l0
  rw [← hcs1, ← hcs2] at hw0 ⊢
  have S1 := entE.src_below ha.row l0
  have S2 := entE.src_below hb.row l0
  obtain ⟨g1, hg1⟩ : ∃ g1, g1 = W.heap.size := ⟨_, rfl⟩
  obtain ⟨g2, hg2⟩ : ∃ g2, g2 = W.heap.size + 1 := ⟨_, rfl⟩
  rw [← hg1] at K1
  rw [← hg2] at K2
  have x0 := K1.kd
  have x1 := K1.blob
  have x2 := K1.ents
  have y0 := K2.kd
  have y1 := K2.blob
  have y2 := K2.ents
  have XC : Hid (∀ w', Below w0.heap.size w0 w' → ∀ j v, (comL a.com B1 m1 d1)[j]? = some v → w'.cell? ((⟨g1, 3, none⟩ : Addr).add j) = some v) := Lib.hid fun w' hw j v hv => (K1.below hw).com j v hv
  have YC : Hid (∀ w', Below w0.heap.size w0 w' → ∀ j v, (comL b.com B2 m2 d2)[j]? = some v → w'.cell? ((⟨g2, 3, none⟩ : Addr).add j) = some v) := Lib.hid fun w' hw j v hv => (K2.below hw).com j v hv
  have IA := Lib.hid (infoC a.com B1 m1 d1)
  have IB := Lib.hid (infoC b.com B2 m2 d2)
  have cE := entsEqual_any w0 A1 A2 n1 k1 n2 k2 a.ents b.ents S1 S2 h1 h2
  have cC : ∀ w, Below w0.heap.size w0 w → Calls Tryz.prog 65 #[.agg (comL a.com B1 m1 d1).toArray, .agg (comL b.com B2 m2 d2).toArray] w fun e w' => e = .returned (.bool (eqC a.com b.com)) ∧ Below w.heap.size w w' := fun w hw =>
    commitEq_any w a.com b.com B1 m1 d1 B2 m2 d2 (ha.com.below (l0.trans (hw.mono l0.size))) (hb.com.below (l0.trans (hw.mono l0.size))) h3 h4
  have hkk := dec_int a.kd b.kd
  have hnn := dec_note a.blob b.blob ba bb hba hbb
  obtain ⟨r, hr⟩ : ∃ r, r = eqO a b := ⟨_, rfl⟩
  rw [← hr]
  unfold eqO at hr
  generalize decide (a.kd = b.kd) = t at hkk hr
  generalize decide (a.blob = b.blob) = p at hnn hr
  generalize decide (a.ents = b.ents) = q at cE hr
  generalize eqC a.com b.com = u at cC hr
  generalize a.kd = ka at x0 hkk
  generalize b.kd = kb at y0 hkk
  generalize comL a.com B1 m1 d1 = ca at XC IA cC
  generalize comL b.com B2 m2 d2 = cb at YC IB cC
  have CE := Lib.hid cE
  have CC := Lib.hid cC
  have L0 := Lib.hid l0
  clear ha hb K1 K2 l0 S1 S2 cE cC hcs1 hcs2 hba hbb h1 h2 h3 h4
  go_enter Tryz.func22, Tryz.ntmps22
  go_upto_region 1 with fail
  change Code.wp _ _ _ _ ((W.alloc (.cells cs1.toArray 30)).alloc (.cells cs2.toArray 30))
  rw [← hw0, ← hg2, ← hg1]
  clear hw0 hg1 hg2
  cases t
  · skip
    have HR := Lib.hid (show r = false by rw [hr]; rfl)
    clear hr
    go_wp2
    go_ret
    exact ⟨by rw [HR.out]; rfl, L0.out⟩
  · cases p
    · skip
      have HR := Lib.hid (show r = false by rw [hr]; rfl)
      clear hr
      go_wp2
      go_ret
      exact ⟨by rw [HR.out]; rfl, L0.out⟩
    · cases q
      · skip
        have HR := Lib.hid (show r = false by rw [hr]; rfl)
        clear hr
        go_wp2_with (go_at_call 73; refine CE.out.mono ?_; rintro e w1 ⟨rfl, hb1⟩; have B1 := Lib.hid hb1; clear hb1)
        go_ret
        exact ⟨by rw [HR.out]; rfl, L0.out.trans (B1.out.mono L0.out.size)⟩
      · skip
        have HR := Lib.hid (show r = u by rw [hr]; rfl)
        clear hr
        go_wp2_with (first
          | (go_at_call 73; refine CE.out.mono ?_; rintro e w1 ⟨rfl, hb1⟩; have B1 := Lib.hid hb1; have xc := Lib.hid (XC.out _ hb1); have yc := Lib.hid (YC.out _ hb1); clear hb1)
          | (refine wpl_guard (by rfl) ?_; refine wpl_loadS rfl 28 (.tmp 25) rfl ⟨g1, 3, none⟩ rfl ca Tryz.isAgg28 IA.out xc.out ?_)
          | (refine wpl_guard (by rfl) ?_; refine wpl_loadS rfl 28 (.tmp 27) rfl ⟨g2, 3, none⟩ rfl cb Tryz.isAgg28 IB.out yc.out ?_)
          | (go_at_call 65; refine (CC.out _ B1.out).mono ?_; rintro e w2 ⟨rfl, hb2⟩; have B2 := Lib.hid (B1.out.trans (hb2.mono B1.out.size)); clear hb2))
        go_ret
        exact ⟨by rw [HR.out]; rfl, L0.out.trans (B2.out.mono L0.out.size)⟩
end Go.Proofs.YtpbnigpdpkfpaaaGreatDoor
namespace Go.Proofs.YtpbnigpdpkfpaaaGreatDoor
open Go.RowKit
def idOf (b : UInt8) : Idt := ⟨b :: List.replicate 31 0, rfl⟩
def ent1 : Ent := ⟨[97], false, idOf 1⟩
def ent2 : Ent := ⟨[98], true, idOf 2⟩
def ents2 : List Ent := [ent1, ent2]
def com7 : Com := ⟨idOf 3, [idOf 4], 4619567317775286272, [110]⟩
def ob2 : Obt := ⟨2, [], ents2, noCom⟩
theorem ents2_may : mayT ents2 = true := by decide +kernel
theorem ents2_get : getT (treeB ents2) = some ents2 := by decide +kernel
theorem ents2_fit : NamesFit ents2 := fun e he => by
  rcases List.mem_cons.1 he with rfl | h
  · exact Nat.le_of_ble_eq_true rfl
  · rw [List.mem_singleton.1 h]; exact Nat.le_of_ble_eq_true rfl
theorem com7_may : mayC com7 = true := by
  rw [mayC_unlike com7 (fun i hi => by
    have : i = 0 := by simp [com7] at hi; omega
    subst this
    simp)]
  have : fmay 4619567317775286272 = true := by kernel_rfl
  simp [com7, this]
theorem com7_get : getC (commitB com7) = some com7 := getC_put com7 (by decide) com7_may
theorem eqC_self (c : Com) : eqC c c = true := by simp [eqC]
theorem eqO_self (o : Obt) : eqO o o = true := by simp [eqO, eqC_self]
theorem ob2_may : mayO ob2 = true := by
  unfold mayO
  rw [if_neg (by decide), if_pos (show ob2.kd = 2 from rfl)]
  show (decide ((([] : List UInt8)) = []) && eqC noCom noCom && mayT ents2) = true
  rw [eqC_self, ents2_may]
  rfl
theorem ob2_get : getO 2 (treeB ents2) = (ob2, 0) := by
  unfold getO
  rw [if_neg (by decide), if_pos rfl, ents2_get]
  rfl
theorem ents2_find : findE ents2 [98] = (ent2, true) := by decide +kernel
theorem path_ab : pathV [97, 47, 98] = ([[97], [98]], true) := by decide +kernel
theorem bt {a b c : World} (h1 : Below a.heap.size a b) (h2 : Below b.heap.size b c) : Below a.heap.size a c := h1.trans (h2.mono h1.size)
theorem laidS (w : World) (t : TypeId) (z cs : List Value) : Below w.heap.size w ((w.alloc (.cells z.toArray t)).setRow w.heap.size cs.toArray) ∧ Blk ((w.alloc (.cells z.toArray t)).setRow w.heap.size cs.toArray) w.heap.size t cs :=
  ⟨below_setRow' ((Below.refl _ _).alloc (Nat.le_refl _) _) (Nat.le_refl _) _, (Blk.new w t z).row _⟩
theorem built_e1 : Tryz.prog.built 99 [(0, .string ⟨#[97]⟩), (2, .agg (encI (idOf 1)).toArray)] = some (encE ent1).toArray := by
  rw [builtE, fill_one _ _ 0 _ _ 0 [.string ⟨#[97]⟩] rfl (by simp) (by simp [zeroE, encE, encI_len]), fill_one _ _ 2 _ _ 2 (encI (idOf 1)) rfl (by simp [encI_len]) (by simp [zeroE, encE, encI_len]), Instr.fill]
  simp [zeroE, encE, encI_len, ent1]
theorem built_e2 : Tryz.prog.built 99 [(0, .string ⟨#[98]⟩), (1, .bool true), (2, .agg (encI (idOf 2)).toArray)] = some (encE ent2).toArray := built_ent ⟨#[98]⟩ true (idOf 2)
theorem built_com (x : Idt) (A : Option Addr) (m d b : Nat) (nb : ByteArray) (ps : List Idt) : Tryz.prog.built 28 [(0, .agg (encI x).toArray), (1, .slice A m d), (2, .float .f64 b), (3, .string nb)] = some (comL ⟨x, ps, b, nb.data.toList⟩ A m d).toArray := by
  have hx := encI_len x
  have h0 := encI_len default
  rw [builtC, fill_one _ _ 0 _ _ 0 (encI x) rfl (by simp [hx]) (by simp [zeroC, comL_len, hx]), fill_one _ _ 1 _ _ 32 [.slice A m d] rfl (by simp) (by simp [zeroC, comL, noCom, hx, h0]), fill_one _ _ 2 _ _ 33 [.float .f64 b] rfl (by simp) (by simp [zeroC, comL, noCom, hx, h0]), fill_one _ _ 3 _ _ 34 [.string nb] rfl (by simp) (by simp [zeroC, comL, noCom, hx, h0]), Instr.fill]
  simp [zeroC, comL, noCom, hx, h0, List.take_append, List.drop_append, List.take_of_length_le, List.drop_of_length_le]
end Go.Proofs.YtpbnigpdpkfpaaaGreatDoor
namespace Go.Proofs.YtpbnigpdpkfpaaaGreatDoor
open Go.RowKit
theorem comAt_row {w : World} {B : Nat} {c : Com} {A : Option Addr} {n d : Nat} (h : RowQ w B 24 32 (.slice A n d) n (rowI c.ps)) (h64 : c.wh < 18446744073709551616) (hn : c.note.length ≤ 1048576) : ComAt w c A n d := by
  obtain ⟨Ax, dx, e, hcd, hcm⟩ := h.shape
  injection e with _ _ e
  subst e
  exact ⟨h.src (rowI_one _), hcd, hcm, h64, by simp only [maxLen]; omega⟩
theorem mayC_fit {c : Com} (h : mayC c = true) : c.ps.length ≤ 4 ∧ c.note.length ≤ 100 := by
  unfold mayC at h
  simp only [Bool.and_eq_true, decide_eq_true_eq] at h
  exact ⟨h.1.1.1, h.1.1.2⟩
/-- Two commits, in blocks of their own. -/
structure TwoC (W : World) (N g1 g2 : Nat) (c1 e1 : Com) (q1 q2 : Nat) (w : World) : Prop where
  ex : ∃ B2 d2 B3 d3, Blk w g1 28 (comL c1 B2 q1 d2) ∧ Blk w g2 28 (comL e1 B3 q2 d3) ∧ RowQ w N 24 32 (.slice B2 q1 d2) q1 (rowI c1.ps) ∧ RowQ w N 24 32 (.slice B3 q2 d3) q2 (rowI e1.ps)
  low : Below W.heap.size W w
theorem TwoC.laid {W w : World} {N g1 g2 : Nat} {c1 e1 : Com} {q1 q2 : Nat} {B2 B3 : Option Addr} {d2 d3 : Nat} {x y : List Value} (hx : Blk w g1 28 x) (hy : Blk w g2 28 y)
    (h2 : RowQ w N 24 32 (.slice B2 q1 d2) q1 (rowI c1.ps)) (h3 : RowQ w N 24 32 (.slice B3 q2 d3) q2 (rowI e1.ps)) (hl : Below W.heap.size W w) (hne : g1 ≠ g2) (hn1 : g1 < N) (hn2 : g2 < N) (hg1 : W.heap.size ≤ g1) (hg2 : W.heap.size ≤ g2) :
    TwoC W N g1 g2 c1 e1 q1 q2 ((w.setRow g1 (comL c1 B2 q1 d2).toArray).setRow g2 (comL e1 B3 q2 d3).toArray) := by
  have ne : ∀ {v : Value} {n : Nat} {xs : List Value} {g : Nat}, RowQ w N 24 32 v n xs → g < N → v.ownBlock ≠ some g := fun h hg e => by
    have := (h.lt _ e).1
    omega
  refine ⟨⟨B2, d2, B3, d3, (hx.row _).rowFar hne _, (hy.rowFar hne.symm _).row _, (h2.rowFar (ne h2 hn1) _).rowFar (ne h2 hn2) _, (h3.rowFar (ne h3 hn1) _).rowFar (ne h3 hn2) _⟩, below_setRow' (below_setRow' hl hg1 _) hg2 _⟩
/-- A call, as one step of a region that draws. -/
theorem step_callH {P : Program} {o : Oper} {ops : Array Oper} {a : Act} {w : World} {K : Act → World → Prop} {Q : Exit → Act → World → Prop} {E : Prop} (hgd : Region.wanted o (yielded ops a.tmps) = true) (f : FuncId) (args : Array Value) (h0 : (execOp a.eval o).run P w = .ok (.enter f args) w) (R : Value → World → Prop)
    (hc : Calls P f args w fun e w' => ∃ v, e = .returned v ∧ R v w') (h : ∀ v w', R v w' → K (a.put o.dst v) w') : if Region.wanted o (yielded ops a.tmps) = true then Oper.wp P o a w K Q else E := by
  rw [if_pos hgd]
  unfold Oper.wp
  rw [h0]
  exact hc.mono fun e w' ⟨v, he, hr⟩ => by subst he; exact h v w' hr
end Go.Proofs.YtpbnigpdpkfpaaaGreatDoor
namespace Go.Proofs.YtpbnigpdpkfpaaaGreatDoor
open Go.RowKit
theorem run_uptoE (w : World) (A : Option Addr) (m c k : Nat) (hk : k ≤ c) :
    (Instr.sliceAt 22 (.slice A m c) none (some (.int .i64 k)) none).run Tryz.prog w = .ok (.slice A k c) w := by
  simp [Instr.sliceAt, Instr.slice, Instr.sliceBounds, Instr.sliceBound, go_sem]
  exact fun h => absurd h (by omega)
/-- An object, cut. -/
def cutOb (o : Obt) (q q2 : Nat) : Obt := ⟨o.kd, o.blob.take 1010, o.ents.take q, ⟨o.com.tree, o.com.ps.take q2, o.com.wh, o.com.note.take 110⟩⟩
theorem built_allO (k : Int) (s : ByteArray) (A : Option Addr) (n c : Nat) (es : List Ent) (cm : Com) (B : Option Addr) (m d : Nat) :
    Tryz.prog.built 30 [(0, .int .i64 k), (1, .string s), (2, .slice A n c), (3, .agg (comL cm B m d).toArray)] = some (objL ⟨k, s.data.toList, es, cm⟩ A n c B m d).toArray := by
  rw [builtO, fill_one _ _ 0 _ _ 0 [.int .i64 k] rfl (by simp) (by simp [zeroO, objL_len]), fill_one _ _ 1 _ _ 1 [.string s] rfl (by simp) (by simp [zeroO, objL]), fill_one _ _ 2 _ _ 2 [.slice A n c] rfl (by simp) (by simp [zeroO, objL]),
    fill_one _ _ 3 _ _ 3 (comL cm B m d) rfl (by simp [comL_len]) (by simp [zeroO, objL, comL_len]), Instr.fill]
  simp [zeroO, objL, noOb, comL_len]
set_option maxRecDepth 20000 in
set_option maxHeartbeats 12800000 in
theorem objCut_any (W : World) (o : Obt) (A : Option Addr) (n k : Nat) (B : Option Addr) (m d : Nat) (h : ObAt W o A n k B m d) (q q2 : Nat) (hq : q = min n 22) (hq2 : q2 = min m 6) :
    Calls Tryz.prog 16 #[.agg (objL o A n k B m d).toArray] W fun e W' => ∃ A' k' B' d', e = .returned (.agg (objL (cutOb o q q2) A' q k' B' q2 d').toArray) ∧ RowQ W' W.heap.size 99 34 (.slice A' q k') q (entE.row (o.ents.take q)) ∧ RowQ W' W.heap.size 24 32 (.slice B' q2 d') q2 (rowI (o.com.ps.take q2)) ∧ Below W.heap.size W W' := by
  have hmin : min (n : Int) 22 = (q : Int) := by omega
  have hqk : (q : Int) ≤ (k : Int) := by have := h.cap; omega
  have sl1 := fun w => run_uptoE w A n k q (by have := h.cap; omega)
  obtain ⟨us, hus⟩ : ∃ us, us = o.ents.take q := ⟨_, rfl⟩
  have hsq : ∀ w, Below W.heap.size W w → Src w 34 A q (entE.row us) := fun w hw => by rw [hus]; exact entE.src_take (entE.src_below h.row hw) q (by omega)
  obtain ⟨bb, hbb⟩ : ∃ bb : ByteArray, bb = ⟨o.blob.toArray⟩ := ⟨_, rfl⟩
  obtain ⟨tb, htb⟩ : ∃ tb : ByteArray, tb = ⟨(o.blob.take 1010).toArray⟩ := ⟨_, rfl⟩
  have cT : ∀ w, Calls Tryz.prog 17 #[.string bb, .int .i64 1010] w fun e w' => e = .returned (.string tb) ∧ w' = w := fun w => by
    have := text_cut w bb 1010
    have e : bb.data.toList = o.blob := by rw [hbb]
    rw [e, ← htb] at this
    exact this
  obtain ⟨c1, hc1⟩ : ∃ c1 : Com, c1 = ⟨o.com.tree, o.com.ps.take q2, o.com.wh, o.com.note.take 110⟩ := ⟨_, rfl⟩
  have cC := fun w (hw : Below W.heap.size W w) => comCut_any w o.com B m d (h.com.below hw) q2 hq2
  have hps : o.com.ps.take q2 = c1.ps := by rw [hc1]
  rw [← hc1, hps] at cC
  obtain ⟨o2, ho2⟩ : ∃ o2 : Obt, o2 = cutOb o q q2 := ⟨_, rfl⟩
  have bu : ∀ A' c' B' d', Tryz.prog.built 30 [(0, .int .i64 o.kd), (1, .string tb), (2, .slice A' q c'), (3, .agg (comL c1 B' q2 d').toArray)] = some (objL o2 A' q c' B' q2 d').toArray := fun A' c' B' d' => by
    have := built_allO o.kd tb A' q c' us c1 B' q2 d'
    have e : (⟨o.kd, tb.data.toList, us, c1⟩ : Obt) = o2 := by rw [ho2, htb, hus, hc1]; rfl
    rwa [e] at this
  rw [← hus, hps, ← ho2]
  obtain ⟨w0, hw0⟩ : ∃ w0, w0 = (W.alloc (.cells (objL o A n k B m d).toArray 30)).alloc (.cells zeroO.toArray 30) := ⟨_, rfl⟩
  have hz0 : (W.alloc (.cells (objL o A n k B m d).toArray 30)).heap.size = W.heap.size + 1 := hsz _ _
  have l0 : Below W.heap.size W w0 := by rw [hw0]; exact ((Below.refl _ _).alloc (Nat.le_refl _) _).alloc (by rw [hz0]; omega) _
  have x0 : Blk w0 W.heap.size 30 (objL o A n k B m d) := by rw [hw0]; exact (Blk.new W _ _).alloc _
  have y0 : Blk w0 (W.heap.size + 1) 30 zeroO := by rw [hw0, ← hz0]; exact Blk.new _ _ _
  obtain ⟨g, hg⟩ : ∃ g, g = W.heap.size := ⟨_, rfl⟩
  obtain ⟨g2, hg2⟩ : ∃ g2, g2 = W.heap.size + 1 := ⟨_, rfl⟩
  rw [← hg] at x0
  rw [← hg2] at y0
  have OWN : Hid (∀ w, Below W.heap.size W w → True) := Lib.hid fun _ _ => trivial
  have HBB := Lib.hid hbb
  have SQ := Lib.hid hsq
  have CT := Lib.hid cT
  have CC := Lib.hid cC
  have BU := Lib.hid bu
  have X0 := Lib.hid x0
  have Y0 := Lib.hid y0
  have L0 := Lib.hid l0
  have GN : Hid (W.heap.size ≤ g2) := Lib.hid (by omega)
  have NE : Hid (g ≠ g2) := Lib.hid (by omega)
  have Q22 : Hid (q ≤ 22) := Lib.hid (by omega)
  have G2 := Lib.hid hg2
  obtain ⟨cl, hcl⟩ : ∃ cl, cl = objL o A n k B m d := ⟨_, rfl⟩
  have HCL := Lib.hid hcl
  rw [← hcl] at hw0 hz0 ⊢
  clear hus hsq hbb htb cT hc1 cC hps ho2 bu l0 x0 y0 h hq hq2 hcl OWN
  go_enter Tryz.func16, Tryz.ntmps16
  go_upto_region 1 with fail
  change Code.wp _ _ _ _ ((W.alloc (.cells cl.toArray 30)).alloc (.cells zeroO.toArray 30))
  rw [← hw0]
  try rw [hz0]
  try rw [← hg2]
  try rw [← hg]
  clear hw0 hz0 hg hg2
  refine wp_region_any (by kernel_rfl) ?_
  change wpAny _ _ _ _ _ _ _ (World.drew _)
  have XS : Hid (Blk w0.drew g 30 (objL o A n k B m d)) := Lib.hid X0.out.drew
  have YS : Hid (Blk w0.drew g2 30 zeroO) := Lib.hid Y0.out.drew
  have L1 : Hid (Below W.heap.size W w0.drew) := Lib.hid L0.out.drew
  generalize World.drew w0 = v0 at XS YS L1 ⊢
  have OW : Hid (∀ {w : World} {v : Value} {n : Nat} {e : TypeId} {s : Nat} {xs : List Value}, RowQ w v0.heap.size e s v n xs → v.ownBlock ≠ some g2) := Lib.hid fun hr e => by
    have h1 := (hr.lt _ e).1
    have h2 := YS.out.lt
    omega
  clear X0 Y0 L0
  refine wpAny_bare [0, 2, 5, 7, 13] 13 (by rfl) (by kernel_rfl) (fun _ _ _ d _ h => by cases d <;> exact h) ?_
  simp only [bareO, List.filterMap_cons, List.filterMap_nil, List.getElem?_toArray, List.getElem?_cons_succ, List.getElem?_cons_zero]
  repeat (first | quiet_step (fail) | go_big_quiet_step (fail))
  refine wpQuiet_nil ?_
  refine wpAny_of_held (S := fun w' => Blk w' g 30 (objL o A n k B m d)) _ _ _ _ ?_
  refine wpAnyH_take (i := 1) rfl (by kernel_rfl) (by kernel_rfl) (by kernel_rfl) (fun _ _ _ h => h) (yi_cell (by rfl) 3 (.tmp 3) rfl ⟨g, 0, none⟩ rfl (.int .i64 o.kd) Tryz.isAgg3 (fun w hw => (ObBlk.of hw).kd)) XS.out ?_
  go_simp
  refine wpAnyH_take (i := 3) rfl (by kernel_rfl) (by kernel_rfl) (by kernel_rfl) (fun _ _ _ h => h) (yi_cell (by rfl) 9 (.tmp 5) rfl ⟨g, 1, none⟩ rfl (.string bb) Tryz.isAgg9 (fun w hw => by rw [HBB.out]; exact (ObBlk.of hw).blob)) XS.out ?_
  go_simp
  refine wpAnyH_take (i := 6) rfl (by kernel_rfl) (by kernel_rfl) (by kernel_rfl) (fun _ _ _ h => h) (yi_cell (by rfl) 22 (.tmp 8) rfl ⟨g, 2, none⟩ rfl (.slice A n k) Tryz.isAgg22 (fun w hw => (ObBlk.of hw).ents)) XS.out ?_
  go_simp
  refine wpAnyH_take (i := 8) rfl (by kernel_rfl) (by kernel_rfl) (by kernel_rfl) (fun _ _ _ h => h) (yi_cell (by rfl) 22 (.tmp 10) rfl ⟨g, 2, none⟩ rfl (.slice A n k) Tryz.isAgg22 (fun w hw => (ObBlk.of hw).ents)) XS.out ?_
  go_simp
  refine wpAnyH_take (i := 14) rfl (by kernel_rfl) (by kernel_rfl) (by kernel_rfl) (fun _ _ _ h => h) (yi_loadS (by rfl) 28 (.tmp 16) rfl ⟨g, 3, none⟩ rfl (comL o.com B m d) Tryz.isAgg28 (infoC _ _ _ _) (fun w hw j v hv => (ObBlk.of hw).com j v hv)) XS.out ?_
  go_simp
  refine wpAnyH_take (i := 9) rfl (by kernel_rfl) (by kernel_rfl) (by kernel_rfl) (fun _ _ _ h => h) (yi_val (by rfl) (.int .i64 n) (fun w => by first | rfl | (simp [execOp, go_sem]; done) | (unfold execOp; go_simp; done) | (unfold execOp; simp; rfl))) XS.out ?_
  go_simp
  refine wpAnyH_take (i := 10) rfl (by kernel_rfl) (by kernel_rfl) (by kernel_rfl) (fun _ _ _ h => h) (yi_val (by rfl) (.int .i64 q) (fun w => by first | rfl | (simp [execOp, go_sem]; done) | (unfold execOp; go_simp; done) | (unfold execOp; simp; rfl))) XS.out ?_
  go_simp
  refine wpAnyH_take (i := 11) rfl (by kernel_rfl) (by kernel_rfl) (by kernel_rfl) (fun _ _ _ h => h) (yi_val (by rfl) (.slice A q k) (fun w => by first | rfl | (simp [execOp, go_sem]; done) | (unfold execOp; go_simp; done) | (unfold execOp; simp; rfl))) XS.out ?_
  go_simp
  refine wpAnyH_ready (rs := [4]) (by kernel_rfl) (by simp) ?_
  refine AllReadyH.cons rfl (fun K hK => ?_) AllReadyH.nil
  refine step_callH (by rfl) 17 #[.string bb, .int .i64 1010] (by first | rfl | (simp [execOp, go_sem]; done) | (unfold execOp; go_simp; done) | (unfold execOp; simp; rfl)) (fun v w' => v = .string tb ∧ w' = v0) ((CT.out _).mono fun e w' ⟨he, hw⟩ => ⟨_, he, rfl, hw⟩) ?_
  rintro _ w2 ⟨rfl, hw2⟩
  replace hw2 := hw2.symm
  subst hw2
  refine hK.out _ _ (XS.out) (fun _ => ?_)
  clear hK K
  go_simp
  refine wpAnyH_ready (rs := [12]) (by kernel_rfl) (by simp) ?_
  refine AllReadyH.cons rfl (fun K hK => ?_) AllReadyH.nil
  refine step_append_Q rfl (.const (.slice none 0 0)) (.tmp 14) 22 rfl v0.heap.size 99 (.agg zeroE.toArray) 34 56 Tryz.underlying22 (by kernel_rfl) rfl (by decide) (.slice none 0 0) 0 [] rfl (RowQ.nil _ _ _ _) A q k (entE.row us) rfl (SQ.out _ L1.out) (by have := Q22.out; omega) (by have := Q22.out; omega) (Nat.le_refl _) ?_
  intro v3 w3 hr3 hg3 _
  rw [Nat.zero_add, List.nil_append] at hr3
  obtain ⟨A3, c3, rfl, _, _⟩ := hr3.shape
  have R3 := Lib.hid hr3
  have B3 := Lib.hid (grown_nil hg3)
  have X3 := Lib.hid (XS.out.below B3.out)
  have L3 := Lib.hid (L1.out.trans (B3.out.mono L1.out.size))
  have Y3 := Lib.hid (YS.out.below B3.out)
  clear hr3 hg3
  refine hK.out _ _ (X3.out) (fun _ => ?_)
  clear hK K
  go_simp
  refine wpAnyH_ready (rs := [15]) (by kernel_rfl) (by simp) ?_
  refine AllReadyH.cons rfl (fun K hK => ?_) AllReadyH.nil
  refine step_callH (by rfl) 66 #[.agg (comL o.com B m d).toArray] (by first | rfl | (simp [execOp, go_sem]; done) | (unfold execOp; go_simp; done) | (unfold execOp; simp; rfl)) (fun v w' => ∃ B4 d4, v = .agg (comL c1 B4 q2 d4).toArray ∧ RowQ w' v0.heap.size 24 32 (.slice B4 q2 d4) q2 (rowI c1.ps) ∧ Below w3.heap.size w3 w') ((CC.out _ L3.out).mono fun e w' ⟨B, d, he, hr, hb⟩ => ⟨_, he, B, d, rfl, hr.mono B3.out.size, hb⟩) ?_
  rintro _ w4 ⟨B4, d4, rfl, hr, hb⟩
  have R4 := Lib.hid hr
  have Q4 := Lib.hid (R3.out.below hb)
  have X4 := Lib.hid (X3.out.below hb)
  have Y4 := Lib.hid (Y3.out.below hb)
  have L4 := Lib.hid (L3.out.trans (hb.mono L3.out.size))
  clear hr hb
  refine hK.out _ _ (X4.out) (fun _ => ?_)
  clear hK K
  go_simp
  refine wpAnyH_ready (rs := [16]) (by kernel_rfl) (by simp) ?_
  refine AllReadyH.cons rfl (fun K hK => ?_) AllReadyH.nil
  refine step_build (by rfl) 30 [(0, .tmp 4), (1, .tmp 7), (2, .tmp 15), (3, .tmp 18)] rfl (objL o2 A3 q c3 B4 q2 d4).toArray (BU.out A3 c3 B4 d4) ?_
  refine hK.out _ _ (X4.out) (fun _ => ?_)
  clear hK K
  go_simp
  refine wpAnyH_ready (rs := [17]) (by kernel_rfl) (by simp) ?_
  refine AllReadyH.cons rfl (fun K hK => ?_) AllReadyH.nil
  refine step_storeS (by rfl) 30 (.tmp 2) (.tmp 19) rfl g2 (objL o2 A3 q c3 B4 q2 d4) rfl rfl 30 zeroO Y4.out (infoO _ _ _ _ _ _ _) (by rw [objL_len]; rfl) (objL_one _ _ _ _ _ _ _) ?_
  refine hK.out _ _ (X4.out.rowFar NE.out _) (fun _ => ?_)
  clear hK K
  go_simp
  refine wpAnyH_done (by kernel_rfl) ?_ _
  go_wp2
  refine bodyPost_ret (res_rowS1 rfl _ _ g2 30 (objL o2 A3 q c3 B4 q2 d4) _ rfl (Y4.out.row _) Tryz.underlying30 rfl (infoO _ _ _ _ _ _ _)) rfl ?_
  exact ⟨A3, c3, B4, d4, rfl, (Q4.out.rowFar (OW.out Q4.out) _).mono L1.out.size, (R4.out.rowFar (OW.out R4.out) _).mono L1.out.size, below_setRow' L4.out GN.out _⟩
end Go.Proofs.YtpbnigpdpkfpaaaGreatDoor
namespace Go.Proofs.YtpbnigpdpkfpaaaGreatDoor
open Go.RowKit
theorem obAt_row {w : World} {N N' : Nat} {o : Obt} {A B : Option Addr} {n k m d : Nat} (hr : RowQ w N 99 34 (.slice A n k) n (entE.row o.ents)) (ht : RowQ w N' 24 32 (.slice B m d) m (rowI o.com.ps))
    (hn : ∀ e ∈ o.ents, e.nm.length ≤ maxLen) (hb : o.blob.length ≤ 1048576) (h64 : o.com.wh < 18446744073709551616) (hnt : o.com.note.length ≤ 1048576) : ObAt w o A n k B m d := by
  obtain ⟨Ax, dx, e, hcd, hcm⟩ := hr.shape
  injection e with _ _ e
  subst e
  exact ⟨hr.src (entE.row_one _), hcd, hcm, hn, by simp only [maxLen]; omega, comAt_row ht h64 hnt⟩
/-- An object in a block of its own. -/
structure ObSt (W : World) (N g : Nat) (o : Obt) (n m : Nat) (w : World) : Prop where
  ex : ∃ A k B d, Blk w g 30 (objL o A n k B m d) ∧ RowQ w N 99 34 (.slice A n k) n (entE.row o.ents) ∧ RowQ w N 24 32 (.slice B m d) m (rowI o.com.ps)
  low : Below W.heap.size W w
  gN : g < N
  gW : W.heap.size ≤ g
  names : ∀ e ∈ o.ents, e.nm.length ≤ maxLen
  blob : o.blob.length ≤ 1048576
  bits : o.com.wh < 18446744073709551616
  note : o.com.note.length ≤ 1048576
  sz : N ≤ w.heap.size
theorem ObSt.below {W w w' : World} {N g : Nat} {o : Obt} {n m : Nat} (h : ObSt W N g o n m w) (hb : Below w.heap.size w w') : ObSt W N g o n m w' := by
  obtain ⟨A, k, B, d, hx, hr, ht⟩ := h.ex
  exact ⟨⟨A, k, B, d, hx.below hb, hr.below hb, ht.below hb⟩, h.low.trans (hb.mono h.low.size), h.gN, h.gW, h.names, h.blob, h.bits, h.note, Nat.le_trans h.sz hb.size⟩
theorem own_far {w : World} {N g : Nat} {e : TypeId} {s n : Nat} {v : Value} {xs : List Value} (hr : RowQ w N e s v n xs) (hg : g < N) : v.ownBlock ≠ some g := fun e => by
  have := (hr.lt _ e).1
  omega
theorem ObSt.cell {W w : World} {N g : Nat} {o : Obt} {n m : Nat} (h : ObSt W N g o n m w) (j : Nat) (hj : j < 38) : (∃ v, w.cell? ⟨g, j, none⟩ = some v) ∧ w.frozen? ⟨g, j, none⟩ = false := by
  obtain ⟨A, k, B, d, hx, _, _⟩ := h.ex
  exact ⟨⟨_, hx.cell j _ (List.getElem?_eq_getElem (by rw [objL_len]; exact hj))⟩, hx.frozen j⟩
theorem ObSt.kd {W w : World} {N g : Nat} {o : Obt} {n m : Nat} (h : ObSt W N g o n m w) : w.cell? ⟨g, 0, none⟩ = some (.int .i64 o.kd) := by
  obtain ⟨A, k, B, d, hx, _, _⟩ := h.ex
  exact hx.cell 0 _ rfl
/-- The object as it is cut, laid where it was. -/
theorem ObSt.cut {W w : World} {N g : Nat} {o : Obt} {q q2 : Nat} {x : List Value} {A' B' : Option Addr} {k' d' : Nat} (hx : Blk w g 30 x) (hr : RowQ w N 99 34 (.slice A' q k') q (entE.row (o.ents.take q))) (ht : RowQ w N 24 32 (.slice B' q2 d') q2 (rowI (o.com.ps.take q2)))
    (hl : Below W.heap.size W w) (hN : g < N) (hg : W.heap.size ≤ g) (hn : ∀ e ∈ o.ents, e.nm.length ≤ maxLen) (h64 : o.com.wh < 18446744073709551616) (hs : N ≤ w.heap.size) : ObSt W N g (cutOb o q q2) q q2 (w.setRow g (objL (cutOb o q q2) A' q k' B' q2 d').toArray) :=
  ⟨⟨A', k', B', d', hx.row _, hr.rowFar (own_far hr hN) _, ht.rowFar (own_far ht hN) _⟩, below_setRow' hl hg _, hN, hg, fun e he => hn e (List.mem_of_mem_take he), Nat.le_trans (List.length_take_le _ _) (by decide), h64, Nat.le_trans (List.length_take_le _ _) (by decide), Nat.le_trans hs (below_setRow' (Below.refl W.heap.size w) hg _).size⟩
end Go.Proofs.YtpbnigpdpkfpaaaGreatDoor
namespace Go.Proofs.YtpbnigpdpkfpaaaGreatDoor
open Go.RowKit
set_option maxRecDepth 20000 in
set_option maxHeartbeats 6400000 in
theorem objGet_3 (W : World) (k : Int) (s : ByteArray) (l : List UInt8) (hl : l = s.data.toList) (hs : s.size < 4294967281) (hG : Gl W) (hE : Ge W) (hk : k = 3) : Calls Tryz.prog 24 #[.int .i64 k, .string s] W (GetOPost W k l) := by
  have hls : l.length = s.size := by rw [hl, ← ba_size]
  have I0 := GtO.start W k
  have bu := built_kindO k
  have io := infoO ⟨k, [], [], noCom⟩ none 0 0 none 0 0
  have lo := objL_len ⟨k, [], [], noCom⟩ none 0 0 none 0 0
  have oo := objL_one ⟨k, [], [], noCom⟩ none 0 0 none 0 0
  obtain ⟨c0, hc0⟩ : ∃ c0, c0 = objL ⟨k, [], [], noCom⟩ none 0 0 none 0 0 := ⟨_, rfl⟩
  rw [← hc0] at I0 bu io lo oo
  have HC0 := Lib.hid hc0
  have BU := Lib.hid bu
  have IO := Lib.hid io
  have LO := Lib.hid lo
  have OO := Lib.hid oo
  obtain ⟨w1, hw1⟩ : ∃ w1, w1 = W.alloc (.cells zeroO.toArray 30) := ⟨_, rfl⟩
  have hz1 : w1.heap.size = W.heap.size + 1 := by rw [hw1, hsz]
  rw [← hw1] at I0
  have KI := Lib.hid I0
  have HW1 := Lib.hid hw1
  have HZ1 := Lib.hid hz1
  have HL := Lib.hid hl
  have HLS := Lib.hid hls
  subst hk
  have HG := Lib.hid hG
  have HE := Lib.hid hE
  have HS := Lib.hid hs
  clear hs hG hE hl hls bu io lo oo hc0 I0 hw1 hz1
  go_enter Tryz.func24, Tryz.ntmps24
  go_upto_region 1 with fail
  change Code.wp _ _ _ _ (W.alloc (.cells zeroO.toArray 30))
  rw [← HW1.out]
  go_upto_region 2 with (first
    | (refine wpl_buildP rfl 30 _ rfl c0 BU.out ?_)
    | (refine wpl_storeS rfl 30 (.tmp 6) _ rfl w1.heap.size c0 rfl rfl 30 zeroO (Blk.new w1 _ _) IO.out (by rw [LO.out]; rfl) OO.out ?_))
  change Code.wp _ _ _ _ ((w1.alloc (.cells zeroO.toArray 30)).setRow w1.heap.size c0.toArray)
  rw [HZ1.out]
  generalize (w1.alloc (.cells zeroO.toArray 30)).setRow (W.heap.size + 1) c0.toArray = v0 at KI ⊢
  obtain ⟨g1, hg1⟩ : ∃ g1, g1 = W.heap.size + 1 := ⟨_, rfl⟩
  rw [← hg1] at KI
  rw [← hg1]
  obtain ⟨g0, hg0⟩ : ∃ g0, g0 = W.heap.size := ⟨_, rfl⟩
  rw [← hg0] at KI
  rw [← hg0]
  have HG0 := Lib.hid hg0
  clear hg0 hg1 HW1 HZ1 BU
  have cT := commitGet_any v0 s l HL.out HS.out (HG.out.below KI.out.low) (HE.out.below KI.out.low)
  unfold GetCPost at cT
  have hg : getO 3 l = match getC l with | some c => (⟨3, [], [], c⟩, 0) | none => (noOb, 1) := by unfold getO; rw [if_neg (by omega), if_neg (by omega), if_pos rfl]; cases getC l <;> rfl
  have th : ∀ w, GtO W w g0 g1 c0 → w.there g1 3 35 := fun w h => h.cur.there 3 35 (by rw [LO.out]; omega)
  have TH := Lib.hid th
  clear th
  cases hq : getC l with
  | none =>
    rw [hq] at cT hg
    simp only at cT hg
    have HGT := Lib.hid hg
    have zl : zeroC.length = 35 := comL_len _ _ _ _
    have zi := infoZC
    have zo : ∀ v ∈ zeroC, v.oneCell' = true := comL_one _ _ _ _
    obtain ⟨zc, hzc⟩ : ∃ zc, zc = zeroC := ⟨_, rfl⟩
    rw [← hzc] at cT zl zi zo
    have CT := Lib.hid cT
    have ZL := Lib.hid zl
    have ZI := Lib.hid zi
    have ZO := Lib.hid zo
    clear cT hg hq zl zi zo hzc
    go_wp2_with (first
      | (go_at_call 61; refine CT.out.mono ?_; rintro e v1 ⟨rfl, h1⟩; have K1 := Lib.hid (KI.out.below h1); clear h1; have K2 := Lib.hid (K1.out.mid zc 3 (by rw [LO.out, ZL.out]; exact Nat.le_refl _)))
      | (refine wpl_store_mid rfl 28 (.tmp 33) _ rfl g1 3 zc rfl rfl (by rw [ZL.out]; exact TH.out _ K1.out) ZI.out ZO.out ?_)
      | (refine wpl_build rfl 30 _ rfl zeroO (by kernel_rfl) ?_)
      | (refine wpl_storeS rfl 30 (.tmp 4) _ rfl g0 zeroO rfl rfl 30 zeroO K2.out.res infoZO rfl zeroO_one ?_))
    refine bodyPost_ret (res_rowS2 rfl _ _ g0 30 zeroO _ rfl (K2.out.res.row _) Tryz.underlying30 rfl infoZO) rfl ?_
    exact getO_err HGT.out (by decide) rfl (below_setRow' K2.out.low K2.out.p0 _)
  | some c =>
    rw [hq] at cT hg
    simp only at cT hg
    have HGT := Lib.hid hg
    have CT := Lib.hid cT
    have HV := Lib.hid KI.out.low.size
    clear cT hg hq
    go_wp2_with (first
      | (go_at_call 61; refine CT.out.mono ?_; rintro e v1 ⟨A, d, rfl, hr, h1⟩; have K1 := Lib.hid (KI.out.below h1); have RQ := Lib.hid hr; have gq : g1 < v0.heap.size := KI.out.cur.lt; have gp : g0 < v0.heap.size := KI.out.res.lt; have N1 := Lib.hid (show (Value.slice A c.ps.length d).ownBlock ≠ some g1 from fun e => by have := (hr.lt _ e).1; omega); have N0 := Lib.hid (show (Value.slice A c.ps.length d).ownBlock ≠ some g0 from fun e => by have := (hr.lt _ e).1; omega); clear hr h1 gq gp; have K2 : Hid (GtO W (v1.setCells g1 3 (comL c A c.ps.length d)) g0 g1 (objL ⟨3, [], [], c⟩ none 0 0 A c.ps.length d)) := Lib.hid (by have := K1.out.mid (comL c A c.ps.length d) 3 (by rw [LO.out, comL_len]; exact Nat.le_refl _); rw [HC0.out, objL_com] at this; exact this); have RQ2 := Lib.hid ((RQ.out.of_block fun k hk => heap_setCells_other g1 k (fun e => N1.out (by rw [hk, e])) (comL c A c.ps.length d) 3 v1).mono HV.out))
      | (refine wpl_store_mid rfl 28 (.tmp 33) _ rfl g1 3 (comL c A c.ps.length d) rfl rfl (by rw [comL_len]; exact TH.out _ K1.out) (infoC _ _ _ _) (comL_one _ _ _ _) ?_)
      | (refine wpl_loadS rfl 30 (.tmp 6) rfl ⟨g1, 0, none⟩ rfl (objL ⟨3, [], [], c⟩ none 0 0 A c.ps.length d) Tryz.isAgg30 (infoO _ _ _ _ _ _ _) (fun j u hu => by rw [addr_row _ rfl, Nat.zero_add]; exact K2.out.cur.cell j u hu) ?_)
      | (refine wpl_storeS rfl 30 (.tmp 4) _ rfl g0 (objL ⟨3, [], [], c⟩ none 0 0 A c.ps.length d) rfl rfl 30 zeroO K2.out.res (infoO _ _ _ _ _ _ _) (by rw [objL_len]; rfl) (objL_one _ _ _ _ _ _ _) ?_))
    refine bodyPost_ret (res_rowS2 rfl _ _ g0 30 (objL ⟨3, [], [], c⟩ none 0 0 A c.ps.length d) _ rfl (K2.out.res.row _) Tryz.underlying30 rfl (infoO _ _ _ _ _ _ _)) rfl ?_
    exact getO_ok HGT.out none 0 A d rfl (RowQ.nil _ _ _ _) (RQ2.out.rowFar N0.out _) (below_setRow' K2.out.low K2.out.p0 _)
theorem objGet_any (W : World) (k : Int) (s : ByteArray) (l : List UInt8) (hl : l = s.data.toList) (hs : s.size < 4294967281) (hG : Gl W) (hE : Ge W) : Calls Tryz.prog 24 #[.int .i64 k, .string s] W (GetOPost W k l) := by
  by_cases e1 : k = 1
  · exact objGet_1 W k s l hl hs hG hE e1
  · by_cases e2 : k = 2
    · exact objGet_2 W k s l hl hs hG hE e2
    · by_cases e3 : k = 3
      · exact objGet_3 W k s l hl hs hG hE e3
      · exact objGet_0 W k s l hl hs hG hE ⟨e1, e2, e3⟩
end Go.Proofs.YtpbnigpdpkfpaaaGreatDoor
namespace Go.Proofs.YtpbnigpdpkfpaaaGreatDoor
open Go.RowKit
/-- An object in a list of cells; its rows are the call's own. -/
def HasO (w : World) (N : Nat) (e : Obt) (z : List Value) : Prop := ∃ A q k B r d, z = objL e A q k B r d ∧ RowQ w N 99 34 (.slice A q k) q (entE.row e.ents) ∧ RowQ w N 24 32 (.slice B r d) r (rowI e.com.ps) ∧ q ≤ 22 ∧ r ≤ 6
theorem HasO.info {w : World} {N : Nat} {e : Obt} {z : List Value} (h : HasO w N e z) : (Tryz.prog.info? 30).map (·.size) = some z.length := by
  obtain ⟨A, q, k, B, r, d, rfl, _⟩ := h
  exact infoO _ _ _ _ _ _ _
theorem HasO.len {w : World} {N : Nat} {e : Obt} {z : List Value} (h : HasO w N e z) : z.length = 38 := by
  obtain ⟨A, q, k, B, r, d, rfl, _⟩ := h
  exact objL_len _ _ _ _ _ _ _
theorem HasO.one {w : World} {N : Nat} {e : Obt} {z : List Value} (h : HasO w N e z) : ∀ v ∈ z, v.oneCell' = true := by
  obtain ⟨A, q, k, B, r, d, rfl, _⟩ := h
  exact objL_one _ _ _ _ _ _ _
theorem HasO.below {w w' : World} {N : Nat} {e : Obt} {z : List Value} (h : HasO w N e z) (hb : Below w.heap.size w w') : HasO w' N e z := by
  obtain ⟨A, q, k, B, r, d, h1, h2, h3, h4⟩ := h
  exact ⟨A, q, k, B, r, d, h1, h2.below hb, h3.below hb, h4⟩
theorem HasO.mono {w : World} {N N' : Nat} {e : Obt} {z : List Value} (h : HasO w N e z) (hn : N' ≤ N) : HasO w N' e z := by
  obtain ⟨A, q, k, B, r, d, h1, h2, h3, h4⟩ := h
  exact ⟨A, q, k, B, r, d, h1, h2.mono hn, h3.mono hn, h4⟩
theorem HasO.far {w : World} {N : Nat} {e : Obt} {z : List Value} (h : HasO w N e z) (g : Nat) (hg : g < N) (cs : Array Value) : HasO (w.setRow g cs) N e z := by
  obtain ⟨A, q, k, B, r, d, h1, h2, h3, h4⟩ := h
  refine ⟨A, q, k, B, r, d, h1, h2.rowFar (fun e => ?_) _, h3.rowFar (fun e => ?_) _, h4⟩
  · have := (h2.lt _ e).1
    omega
  · have := (h3.lt _ e).1
    omega
/-- What an object must keep to, to be told of. -/
structure FitO (e : Obt) : Prop where
  names : ∀ x ∈ e.ents, x.nm.length ≤ maxLen
  blob : e.blob.length ≤ 1048576
  bits : e.com.wh < 18446744073709551616
  note : e.com.note.length ≤ 1048576
theorem HasO.at {w : World} {N : Nat} {e : Obt} {z : List Value} (h : HasO w N e z) (hf : FitO e) : ∃ A q k B r d, z = objL e A q k B r d ∧ ObAt w e A q k B r d ∧ q ≤ 22 ∧ r ≤ 6 := by
  obtain ⟨A, q, k, B, r, d, h1, h2, h3, h4, h5⟩ := h
  exact ⟨A, q, k, B, r, d, h1, obAt_row h2 h3 hf.names hf.blob hf.bits hf.note, h4, h5⟩
theorem cutO_any (W : World) (o : Obt) (A : Option Addr) (n k : Nat) (B : Option Addr) (m d : Nat) (h : ObAt W o A n k B m d) :
    Calls Tryz.prog 16 #[.agg (objL o A n k B m d).toArray] W fun e W' => ∃ z, e = .returned (.agg z.toArray) ∧ HasO W' W.heap.size (cutOb o (min n 22) (min m 6)) z ∧ Below W.heap.size W W' :=
  (objCut_any W o A n k B m d h _ _ rfl rfl).mono fun _e _W' ⟨A', k', B', d', he, hr, ht, hb⟩ => ⟨_, he, ⟨A', _, k', B', _, d', rfl, hr, ht, Nat.min_le_right _ _, Nat.min_le_right _ _⟩, hb⟩
theorem cut_fit {w : World} {o : Obt} {A : Option Addr} {n k : Nat} {B : Option Addr} {m d : Nat} (h : ObAt w o A n k B m d) (q r : Nat) : FitO (cutOb o q r) :=
  ⟨fun x hx => h.names x (List.mem_of_mem_take hx), Nat.le_trans (List.length_take_le _ _) (by decide), h.com.bits, Nat.le_trans (List.length_take_le _ _) (by decide)⟩
/-- Two objects, in blocks of their own. -/
structure TwoO (W : World) (N g1 g2 : Nat) (c1 e1 : Obt) (w : World) : Prop where
  ex : ∃ x y, Blk w g1 30 x ∧ Blk w g2 30 y ∧ HasO w N c1 x ∧ HasO w N e1 y
  low : Below W.heap.size W w
theorem TwoO.laid {W w : World} {N g1 g2 : Nat} {c1 e1 : Obt} {x y z2 z3 : List Value} (hx : Blk w g1 30 x) (hy : Blk w g2 30 y) (h2 : HasO w N c1 z2) (h3 : HasO w N e1 z3)
    (hl : Below W.heap.size W w) (hne : g1 ≠ g2) (hn1 : g1 < N) (hn2 : g2 < N) (hg1 : W.heap.size ≤ g1) (hg2 : W.heap.size ≤ g2) : TwoO W N g1 g2 c1 e1 ((w.setRow g1 z2.toArray).setRow g2 z3.toArray) :=
  ⟨⟨z2, z3, (hx.row _).rowFar hne _, (hy.rowFar hne.symm _).row _, (h2.far g1 hn1 _).far g2 hn2 _, (h3.far g1 hn1 _).far g2 hn2 _⟩, below_setRow' (below_setRow' hl hg1 _) hg2 _⟩
theorem fit_none : FitO noOb := ⟨fun e he => absurd he List.not_mem_nil, Nat.zero_le _, by show (0 : Nat) < _; decide, Nat.zero_le _⟩
theorem getO_fit {k : Int} {l : List UInt8} {o : Obt} {c : Int} (h : getO k l = (o, c)) : FitO o ∧ o.ents.length ≤ 20 ∧ o.com.ps.length ≤ 4 ∧ (c ≠ 0 → o = noOb) := by
  have z : FitO noOb ∧ noOb.ents.length ≤ 20 ∧ noOb.com.ps.length ≤ 4 := ⟨fit_none, Nat.zero_le _, Nat.zero_le _⟩
  unfold getO at h
  by_cases e1 : k = 1
  · rw [if_pos e1] at h
    by_cases e2 : l.length ≤ 1000
    · rw [if_pos e2] at h
      injection h with h1 h2
      subst h1; subst h2
      exact ⟨⟨fun e he => absurd he List.not_mem_nil, Nat.le_trans e2 (by decide), by show (0 : Nat) < _; decide, Nat.zero_le _⟩, Nat.zero_le _, Nat.zero_le _, fun h => absurd rfl h⟩
    · rw [if_neg e2] at h
      injection h with h1 h2
      subst h1
      exact ⟨z.1, z.2.1, z.2.2, fun _ => rfl⟩
  · rw [if_neg e1] at h
    by_cases e2 : k = 2
    · rw [if_pos e2] at h
      cases hg : getT l with
      | none =>
        rw [hg] at h
        injection h with h1 h2
        subst h1
        exact ⟨z.1, z.2.1, z.2.2, fun _ => rfl⟩
      | some es =>
        rw [hg] at h
        injection h with h1 h2
        subst h1; subst h2
        obtain ⟨_, hm⟩ := getT_back hg
        refine ⟨⟨fun e he => ?_, Nat.zero_le _, by show (0 : Nat) < _; decide, Nat.zero_le _⟩, mayT_len hm, Nat.zero_le _, fun h => absurd rfl h⟩
        have := nameB_len (mayT_mem hm e he)
        unfold maxLen
        omega
    · rw [if_neg e2] at h
      by_cases e3 : k = 3
      · rw [if_pos e3] at h
        cases hg : getC l with
        | none =>
          rw [hg] at h
          injection h with h1 h2
          subst h1
          exact ⟨z.1, z.2.1, z.2.2, fun _ => rfl⟩
        | some cc =>
          rw [hg] at h
          injection h with h1 h2
          subst h1; subst h2
          obtain ⟨h64, hmy, _⟩ := getC_iff.1 hg
          obtain ⟨hp4, hn4⟩ := mayC_fit hmy
          exact ⟨⟨fun e he => absurd he List.not_mem_nil, Nat.zero_le _, h64, Nat.le_trans hn4 (by decide)⟩, Nat.zero_le _, hp4, fun h => absurd rfl h⟩
      · rw [if_neg e3] at h
        injection h with h1 h2
        subst h1
        exact ⟨z.1, z.2.1, z.2.2, fun _ => rfl⟩
/-- What object.Get tells, in one form. -/
theorem getO_has {W W' : World} {k : Int} {l : List UInt8} {e : Ending} {o : Obt} {c : Int} (hq : getO k l = (o, c)) (h : GetOPost W k l e W') : ∃ z, e = .returned (.tuple #[.agg z.toArray, .int .i64 c]) ∧ HasO W' W.heap.size o z ∧ Below W.heap.size W W' := by
  obtain ⟨hb, h⟩ := h
  obtain ⟨_, h20, h4, hn⟩ := getO_fit hq
  rw [hq] at h
  by_cases hc : c = 0
  · subst hc
    rw [if_pos rfl] at h
    obtain ⟨A, k2, B, d, he, hr, ht⟩ := h
    exact ⟨_, he, ⟨A, o.ents.length, k2, B, o.com.ps.length, d, rfl, hr, ht, by omega, by omega⟩, hb⟩
  · rw [if_neg hc] at h
    have := hn hc
    subst this
    exact ⟨zeroO, h, ⟨none, 0, 0, none, 0, 0, rfl, RowQ.nil _ _ _ _, RowQ.nil _ _ _ _, by omega, by omega⟩, hb⟩
end Go.Proofs.YtpbnigpdpkfpaaaGreatDoor
namespace Go.Proofs.YtpbnigpdpkfpaaaGreatDoor
open Go.RowKit
theorem mayO_kinds {o : Obt} (h : mayO o = true) : o.kd = 1 ∨ (o.kd = 2 ∧ mayT o.ents = true) ∨ (o.kd = 3 ∧ mayC o.com = true) := by
  unfold mayO at h
  by_cases e1 : o.kd = 1
  · exact .inl e1
  · rw [if_neg e1] at h
    by_cases e2 : o.kd = 2
    · rw [if_pos e2, Bool.and_eq_true] at h
      exact .inr (.inl ⟨e2, h.2⟩)
    · rw [if_neg e2] at h
      by_cases e3 : o.kd = 3
      · rw [if_pos e3, Bool.and_eq_true] at h
        exact .inr (.inr ⟨e3, h.2⟩)
      · rw [if_neg e3] at h
        cases h
set_option maxRecDepth 20000 in
set_option maxHeartbeats 6400000 in
theorem rputO_any (W : World) (o : Obt) (A : Option Addr) (n k : Nat) (B : Option Addr) (m d : Nat) (h : ObAt W o A n k B m d) (hq : mayO o = true) :
    Calls Tryz.prog 25 #[.agg (objL o A n k B m d).toArray] W fun e W' => e = .returned (.string ⟨(putO o).toArray⟩) ∧ Below W.heap.size W W' := by
  obtain ⟨bb, hbb⟩ : ∃ bb : ByteArray, bb = ⟨o.blob.toArray⟩ := ⟨_, rfl⟩
  have l0 := (Below.refl W.heap.size W).alloc (Nat.le_refl _) (.cells (objL o A n k B m d).toArray 30)
  have k0 := ObBlk.of (Blk.new W 30 (objL o A n k B m d))
  rw [← hbb] at k0
  obtain ⟨w0, hw0⟩ : ∃ w0, w0 = W.alloc (.cells (objL o A n k B m d).toArray 30) := ⟨_, rfl⟩
  rw [← hw0] at l0 k0
  have cT := fun hm w (hw : Below W.heap.size W w) => refTree_any w A n k o.ents (entE.src_below h.row hw) hm
  have cM := fun hm w (hw : Below W.heap.size W w) => rcommit_any w o.com B m d (h.com.below hw) hm
  have ic := infoC o.com B m d
  obtain ⟨g, hg⟩ : ∃ g, g = W.heap.size := ⟨_, rfl⟩
  rw [← hg] at k0
  have L0 := Lib.hid l0
  have K0 := Lib.hid k0
  have IC := Lib.hid ic
  obtain ⟨cs, hcs⟩ : ∃ cs, cs = objL o A n k B m d := ⟨_, rfl⟩
  obtain ⟨cc, hcc⟩ : ∃ cc, cc = comL o.com B m d := ⟨_, rfl⟩
  rw [← hcs] at hw0 ⊢
  rw [← hcc] at cM IC
  have KC : Hid (∀ j v, cc[j]? = some v → w0.cell? ((⟨g, 3, none⟩ : Addr).add j) = some v) := Lib.hid fun j v hv => K0.out.com j v (by rw [← hcc]; exact hv)
  have y0 := K0.out.kd
  have y1 := K0.out.blob
  have y2 := K0.out.ents
  obtain ⟨pb, hpb⟩ : ∃ pb : ByteArray, pb = ⟨(putO o).toArray⟩ := ⟨_, rfl⟩
  rw [← hpb]
  unfold putO at hpb
  have HK := Lib.hid (mayO_kinds hq)
  have HP := Lib.hid hpb
  have HB := Lib.hid hbb
  have CT := Lib.hid cT
  have CM := Lib.hid cM
  generalize o.kd = kd at y0 HK HP
  clear h hq hbb hpb l0 k0 cT cM ic hcs hcc K0
  go_enter Tryz.func25, Tryz.ntmps25
  go_upto_region 1 with fail
  change Code.wp _ _ _ _ (W.alloc (.cells cs.toArray 30))
  rw [← hw0, ← hg]
  clear hw0 hg
  rcases HK.out with rfl | ⟨rfl, ht⟩ | ⟨rfl, hc⟩
  · have e := HP.out
    rw [if_neg (by omega), if_neg (by omega)] at e
    have E := Lib.hid (e.trans HB.out.symm)
    clear e CT CM HK HP
    go_wp2
    go_ret
    exact ⟨by rw [E.out]; rfl, L0.out⟩
  · have e := HP.out
    rw [if_pos rfl] at e
    have E := Lib.hid e
    have CT2 := Lib.hid (CT.out ht w0 L0.out)
    clear e CT CM HK HP ht
    go_wp2_with (go_at_call 74; refine CT2.out.mono ?_; rintro e w2 ⟨rfl, rfl⟩)
    go_ret
    exact ⟨by rw [E.out]; rfl, L0.out⟩
  · have e := HP.out
    rw [if_neg (by omega), if_pos rfl] at e
    have E := Lib.hid e
    have CM2 := Lib.hid (CM.out hc w0 L0.out)
    clear e CT CM HK HP hc
    go_wp2_with (first
      | (refine wpl_loadS rfl 28 (.tmp 14) rfl ⟨g, 3, none⟩ rfl cc Tryz.isAgg28 IC.out KC.out ?_)
      | (go_at_call 75; refine CM2.out.mono ?_; rintro e w2 ⟨rfl, h2⟩; have B2 := Lib.hid h2; clear h2))
    go_ret
    exact ⟨by rw [E.out]; rfl, L0.out.trans (B2.out.mono L0.out.size)⟩
end Go.Proofs.YtpbnigpdpkfpaaaGreatDoor
namespace Go.Proofs.YtpbnigpdpkfpaaaGreatDoor
open Go.RowKit
set_option maxRecDepth 20000 in
set_option maxHeartbeats 6400000 in
theorem ridO_any (W : World) (o : Obt) (A : Option Addr) (n k : Nat) (B : Option Addr) (m d : Nat) (h : ObAt W o A n k B m d) (hq : mayO o = true) :
    Calls Tryz.prog 26 #[.agg (objL o A n k B m d).toArray] W fun e W' => e = .returned (.agg (Bs (sha256 (ofL o.kd (putO o)))).toArray) ∧ Below W.heap.size W W' := by
  have zI := zI_eq
  have la := (Below.refl W.heap.size W).alloc (Nat.le_refl _) (.cells (objL o A n k B m d).toArray 30)
  have ka := Blk.new W 30 (objL o A n k B m d)
  obtain ⟨wa, hwa⟩ : ∃ wa, wa = W.alloc (.cells (objL o A n k B m d).toArray 30) := ⟨_, rfl⟩
  rw [← hwa] at la ka
  have b0 := (Below.refl wa.heap.size wa).alloc (Nat.le_refl _) (.cells zero32.toArray 24)
  have z0 := Blk.new wa 24 zero32
  obtain ⟨w0, hw0⟩ : ∃ w0, w0 = wa.alloc (.cells zero32.toArray 24) := ⟨_, rfl⟩
  rw [← hw0] at b0 z0
  have hat := fun w (hb : Below wa.heap.size wa w) => rputO_any w o A n k B m d (h.below (la.trans (hb.mono la.size))) hq
  obtain ⟨pb, hpb⟩ : ∃ pb : ByteArray, pb = ⟨(putO o).toArray⟩ := ⟨_, rfl⟩
  rw [← hpb] at hat
  have hpz : pb.size ≤ 1000000 := by have := putO_size o h.com.bits hq; rw [hpb, ba_size]; show (putO o).length ≤ _; omega
  have cO : ∀ w, Calls Tryz.prog 53 #[.int .i64 o.kd, .string pb] w fun e w' => e = .returned (.agg (Bs (sha256 (ofL o.kd (putO o)))).toArray) ∧ Below w.heap.size w w' := fun w => rid_any w o.kd pb (putO o) (by rw [hpb]) hpz
  have sl : (Bs (sha256 (ofL o.kd (putO o)))).length = 32 := by simp
  have so := Bs_one (sha256 (ofL o.kd (putO o)))
  generalize Bs (sha256 (ofL o.kd (putO o))) = sv at cO sl so ⊢
  have io := infoO o A n k B m d
  have kk := (ObBlk.of ka).kd
  obtain ⟨g, hg⟩ : ∃ g, g = W.heap.size := ⟨_, rfl⟩
  rw [← hg] at kk ka
  obtain ⟨g2, hg2⟩ : ∃ g2, g2 = wa.heap.size := ⟨_, rfl⟩
  rw [← hg2] at z0
  have hsz2 : g2 = W.heap.size + 1 := by rw [hg2, hwa, hsz]
  have gw : g < wa.heap.size := by have := ka.lt; exact this
  obtain ⟨cs, hcs⟩ : ∃ cs, cs = objL o A n k B m d := ⟨_, rfl⟩
  rw [← hcs] at hwa hat io ka ⊢
  generalize o.kd = kd at cO kk
  have KK : Hid (∀ w, Below wa.heap.size wa w → w.cell? ⟨g, 0, none⟩ = some (.int .i64 kd)) := Lib.hid fun w hw => (hw.cell (p := ⟨g, 0, none⟩) gw).trans kk
  have KO : Hid (∀ w, Below wa.heap.size wa w → ∀ j v, cs[j]? = some v → w.cell? ((⟨g, 0, none⟩ : Addr).add j) = some v) := Lib.hid fun w hw j v hv => by rw [addr_row _ rfl, Nat.zero_add]; exact (ka.below hw).cell j v hv
  have LA := Lib.hid la
  have B0 := Lib.hid b0
  have Z0 := Lib.hid z0
  have CP := Lib.hid hat
  have CO := Lib.hid cO
  have SL := Lib.hid sl
  have SO := Lib.hid so
  have IO := Lib.hid io
  have G2 : Hid (wa.heap.size ≤ g2) := Lib.hid (by omega)
  clear h hq la ka b0 z0 hat hpb hpz cO sl so io kk gw hcs
  go_enter Tryz.func26, Tryz.ntmps26
  go_upto_region 1 with fail
  change Code.wp _ _ _ _ ((W.alloc (.cells cs.toArray 30)).alloc (.cells zero32.toArray 24))
  rw [← hwa, ← hw0, ← hsz2, ← hg]
  clear hwa hw0 hsz2 hg hg2
  refine wp_region_any (by kernel_rfl) ?_
  change wpAny _ _ _ _ _ _ _ (World.drew _)
  have B1 : Hid (Below wa.heap.size wa (World.drew w0)) := Lib.hid B0.out.drew
  have Z1 : Hid (Blk (World.drew w0) g2 24 zero32) := Lib.hid Z0.out.drew
  clear B0 Z0
  generalize World.drew w0 = v0 at B1 Z1 ⊢
  refine wpAny_bare [0] 5 (by rfl) (by kernel_rfl) (fun _ _ _ d _ h => by cases d <;> exact h) ?_
  simp only [bareO, List.filterMap_cons, List.filterMap_nil, List.getElem?_toArray, List.getElem?_cons_zero]
  repeat (first | quiet_step (fail) | go_big_quiet_step (fail))
  refine wpQuiet_nil ?_
  refine wpAny_of_held (S := fun w' => Below wa.heap.size wa w') _ _ _ _ ?_
  refine wpAnyH_take (i := 1) rfl (by kernel_rfl) (by kernel_rfl) (by kernel_rfl) (fun _ _ _ h => h) (yi_cell (by rfl) 3 (.tmp 3) rfl ⟨g, 0, none⟩ rfl (.int .i64 kd) Tryz.isAgg3 (fun w hw => KK.out w hw)) B1.out ?_
  go_simp
  refine wpAnyH_take (i := 2) rfl (by kernel_rfl) (by kernel_rfl) (by kernel_rfl) (fun _ _ _ h => h) (yi_loadS (by rfl) 30 (.tmp 1) rfl ⟨g, 0, none⟩ rfl cs Tryz.isAgg30 IO.out (fun w hw => KO.out w hw)) B1.out ?_
  go_simp
  refine wpAnyH_ready (rs := [3]) (by kernel_rfl) (by simp) ?_
  refine AllReadyH.cons rfl (fun K hK => ?_) AllReadyH.nil
  refine step_callH (by rfl) 25 #[.agg cs.toArray] (by first | rfl | (simp [execOp, go_sem]; done) | (unfold execOp; go_simp; done) | (unfold execOp; simp; rfl)) (fun v w' => v = .string pb ∧ Below v0.heap.size v0 w') ((CP.out _ B1.out).mono fun e w' ⟨he, hw⟩ => ⟨_, he, rfl, hw⟩) ?_
  rintro _ w2 ⟨rfl, hb⟩
  have B2 := Lib.hid (B1.out.trans (hb.mono B1.out.size))
  have Z2 := Lib.hid (Z1.out.below hb)
  clear hb
  refine hK.out _ _ (B2.out) (fun _ => ?_)
  clear hK K
  go_simp
  refine wpAnyH_ready (rs := [4]) (by kernel_rfl) (by simp) ?_
  refine AllReadyH.cons rfl (fun K hK => ?_) AllReadyH.nil
  refine step_callH (by rfl) 53 #[.int .i64 kd, .string pb] (by first | rfl | (simp [execOp, go_sem]; done) | (unfold execOp; go_simp; done) | (unfold execOp; simp; rfl)) (fun v w' => v = .agg sv.toArray ∧ Below w2.heap.size w2 w') ((CO.out _).mono fun e w' ⟨he, hw⟩ => ⟨_, he, rfl, hw⟩) ?_
  rintro _ w3 ⟨rfl, hb⟩
  have B3 := Lib.hid (B2.out.trans (hb.mono B2.out.size))
  have Z3 := Lib.hid (Z2.out.below hb)
  clear hb
  refine hK.out _ _ (B3.out) (fun _ => ?_)
  clear hK K
  go_simp
  refine wpAnyH_ready (rs := [5]) (by kernel_rfl) (by simp) ?_
  refine AllReadyH.cons rfl (fun K hK => ?_) AllReadyH.nil
  refine step_storeS (by rfl) 24 (.tmp 2) (.tmp 7) rfl g2 sv rfl rfl 24 zero32 Z3.out (by rw [Tryz.sizeId, SL.out]) (by rw [SL.out]; simp [zero32]) SO.out ?_
  have B4 := Lib.hid (below_setRow' B3.out G2.out sv.toArray)
  refine hK.out _ _ (B4.out) (fun _ => ?_)
  clear hK K
  go_simp
  refine wpAnyH_done (by kernel_rfl) ?_ _
  go_wp2
  refine bodyPost_ret (v := .agg sv.toArray) (res_row rfl _ _ g2 24 _ 32 5 rfl (Z3.out.row _) Tryz.underlying24 (by rw [Tryz.sizeId, SL.out])) rfl ⟨rfl, LA.out.trans (B4.out.mono LA.out.size)⟩
end Go.Proofs.YtpbnigpdpkfpaaaGreatDoor
namespace Go.Proofs.YtpbnigpdpkfpaaaGreatDoor
open Go.RowKit
theorem linksO_not3 {o : Obt} (h : mayO o = true) (h3 : ¬ o.kd = 3) : linksO o = o.ents.map (·.id) := by
  unfold linksO
  by_cases e2 : o.kd = 2
  · rw [if_pos e2]
  · rw [if_neg e2, if_neg h3]
    unfold mayO at h
    by_cases e1 : o.kd = 1
    · rw [if_pos e1, Bool.and_eq_true, Bool.and_eq_true, decide_eq_true_eq] at h
      rw [h.1.1]
      rfl
    · rw [if_neg e1, if_neg e2, if_neg h3] at h
      cases h
set_option maxRecDepth 20000 in
set_option maxHeartbeats 6400000 in
theorem rlinks_any (W : World) (o : Obt) (A : Option Addr) (n k : Nat) (B : Option Addr) (m d : Nat) (h : ObAt W o A n k B m d) (hn : n ≤ 1099511627776) (hm : m ≤ 1099511627776) (hq : mayO o = true) :
    Calls Tryz.prog 29 #[.agg (objL o A n k B m d).toArray] W (LinksPost W (linksO o)) := by
  have zI := zI_eq
  have LN := Lib.hid h.len
  have PN := Lib.hid h.com.len
  have l0 := (Below.refl W.heap.size W).alloc (Nat.le_refl _) (.cells (objL o A n k B m d).toArray 30)
  have kb := ObBlk.of (Blk.new W 30 (objL o A n k B m d))
  obtain ⟨w0, hw0⟩ : ∃ w0, w0 = W.alloc (.cells (objL o A n k B m d).toArray 30) := ⟨_, rfl⟩
  rw [← hw0] at l0 kb
  have s0 := entE.src_below h.row l0
  have p0 := srcI_below h.com.row l0
  have KB := Lib.hid kb
  have L0 := Lib.hid l0
  have S0 := Lib.hid s0
  have P0 := Lib.hid p0
  have HN := Lib.hid hn
  have HM := Lib.hid hm
  have N3 := Lib.hid (linksO_not3 hq)
  have Y3 : Hid (o.kd = 3 → linksO o = [o.com.tree] ++ o.com.ps) := Lib.hid fun e => by unfold linksO; rw [if_neg (by omega), if_pos e]; rfl
  have n9 : (n : Int) ≤ 1099511627776 := by omega
  obtain ⟨g, hg⟩ : ∃ g, g = W.heap.size := ⟨_, rfl⟩
  rw [← hg] at KB
  have KC : Hid (∀ w, Below w0.heap.size w0 w → w.cell? ⟨g, 0, none⟩ = some (.int .i64 o.kd) ∧ w.cell? ⟨g, 2, none⟩ = some (.slice A n k) ∧ (∀ j v, (encI o.com.tree)[j]? = some v → w.cell? ((⟨g, 3, none⟩ : Addr).add j) = some v) ∧ w.cell? ⟨g, 35, none⟩ = some (.slice B m d)) := Lib.hid fun w hw => by
    have kw := KB.out.below hw
    refine ⟨kw.kd, kw.ents, fun j v hv => kw.com j v (comL_tree _ _ _ _ j v hv), ?_⟩
    have := kw.com 32 _ (comL_at o.com B m d).1
    rwa [addr_row _ rfl] at this
  obtain ⟨es, hes⟩ : ∃ es, es = o.ents := ⟨_, rfl⟩
  obtain ⟨tr, htr⟩ : ∃ tr, tr = o.com.tree := ⟨_, rfl⟩
  obtain ⟨ps, hps⟩ : ∃ ps, ps = o.com.ps := ⟨_, rfl⟩
  obtain ⟨kd, hkd⟩ : ∃ kd, kd = o.kd := ⟨_, rfl⟩
  obtain ⟨lo, hlo⟩ : ∃ lo, lo = linksO o := ⟨_, rfl⟩
  rw [← hes] at LN S0 N3
  rw [← htr] at KC Y3
  rw [← hps] at P0 Y3 PN
  rw [← hkd] at KC Y3 N3
  rw [← hlo] at Y3 N3 ⊢
  have IT := Lib.hid (infoId tr)
  obtain ⟨cs, hcs⟩ : ∃ cs, cs = objL o A n k B m d := ⟨_, rfl⟩
  rw [← hcs] at hw0 ⊢
  have G := Lib.hid hg
  clear h hn hm hq l0 kb s0 p0 hes htr hps hkd hlo hcs KB
  go_enter Tryz.func29, Tryz.ntmps29
  go_upto_region 1 with fail
  change Code.wp _ _ _ _ (W.alloc (.cells cs.toArray 30))
  rw [← hw0, ← hg]
  clear hw0 hg
  go_wp2
  go_loopw [3, 4] (fun v i wr => ∃ j : Nat, j ≤ n ∧ i = .int .i64 j ∧ RowQ wr w0.heap.size 24 32 v j (rowI ((es.take j).map (·.id))) ∧ Below w0.heap.size w0 wr) (fun _ i _ => n - (intOf i).toNat)
  case atStart => exact ⟨0, by omega, rfl, RowQ.nil _ _ _ _, Below.refl _ _⟩
  case round =>
    obtain ⟨j, hj, rfl, hr, hb⟩ := hrel
    obtain ⟨A1, c1, rfl, hc1, hm1⟩ := hr.shape
    have RQ := Lib.hid hr
    have BR := Lib.hid hb
    obtain ⟨y0, y2, y3, y4⟩ := KC.out wr hb
    have Y0 := Lib.hid y3
    have Y4 := Lib.hid y4
    have low := Lib.hid (L0.out.trans (BR.out.mono L0.out.size))
    clear hr hb hc1 hm1 y3 y4
    by_cases hlt : j < n
    · have k1 : (j : Int) < (n : Int) := by omega
      have hln := LN.out
      obtain ⟨_, b, oo, rfl, hc⟩ := entE.src_at (entE.src_below S0.out BR.out) (by omega)
      have ce : ∀ t v, (encE es[j]!)[t]? = some v → wr.cell? ((⟨b, oo + j * 34, none⟩ : Addr).add t) = some v := entE.at_elem (hc j hlt)
      have hnx := ids_take es j (by omega)
      obtain ⟨e, he⟩ : ∃ e, e = es[j]! := ⟨_, rfl⟩
      rw [← he] at ce hnx
      have NX := Lib.hid hnx
      have ID := Lib.hid (infoId e.id)
      have HLT := Lib.hid hlt
      have jw : wrap64 ((j : Int) + 1) = ((j + 1 : Nat) : Int) := by unfold wrap64; omega
      have CI : Hid (∀ t v, (encI e.id)[t]? = some v → wr.cell? ((⟨b, oo + j * 34 + 2, none⟩ : Addr).add t) = some v) := Lib.hid fun t v hv => by
        have := ce (2 + t) v (by show (encE e)[2 + t]? = some v; rw [Nat.add_comm]; exact hv)
        rw [addr_row _ rfl] at this ⊢
        have e2 : oo + j * 34 + 2 + t = oo + j * 34 + (2 + t) := by omega
        show wr.cell? ⟨b, oo + j * 34 + 2 + t, none⟩ = some v
        rw [e2]
        exact this
      clear hc ce hnx he hlt hj hln
      go_wp2_with (first
        | (refine wpl_loadS rfl 24 (.tmp 17) rfl ⟨b, oo + j * 34 + 2, none⟩ rfl (encI e.id) Tryz.isAgg24 ID.out CI.out ?_)
        | (refine wpl_buildE idtE rfl 25 24 1 _ rfl [e.id] rfl rfl (.agg zero32.toArray) 32 Tryz.underlying25 Tryz.infoIdz (by decide) (by decide) ?_; have R2 := Lib.hid (RQ.out.alloc (.cells (idtE.row [e.id]).toArray 24)); have L2 := Lib.hid (low.out.alloc low.out.size (.cells (idtE.row [e.id]).toArray 24)); have B2 := Lib.hid (BR.out.alloc BR.out.size (.cells (idtE.row [e.id]).toArray 24)); have S2 := Lib.hid (row_src idtE wr 24 [e.id]); generalize wr.heap.size = g2 at S2 ⊢; generalize World.alloc wr (.cells (idtE.row [e.id]).toArray 24) = w2 at R2 L2 B2 S2 ⊢)
        | (at_builtin; refine wpl_append rfl (.tmp 12) (.tmp 19) 25 rfl w0.heap.size 24 (.agg zero32.toArray) 32 32 Tryz.underlying25 Tryz.infoIdz rfl (by decide) (.slice A1 j c1) j (rowI ((es.take j).map (·.id))) rfl R2.out (some ⟨g2, 0, none⟩) 1 1 (rowI [e.id]) rfl S2.out (by have := HN.out; have := HLT.out; omega) (by have := HN.out; have := HLT.out; omega) B2.out.size ?_; intro v3 w3 hr3 hg3 ha3; have R3 := Lib.hid hr3; have B3 : Hid (Below w0.heap.size w0 w3) := Lib.hid (B2.out.grown hg3 B2.out.size (fun k e => (R2.out.lt k e).1)); clear hr3 hg3 ha3))
      go_roundw
      case measure => simp [intOf]; have := HLT.out; omega
      case rel => exact ⟨j + 1, HLT.out, by go_num, by rw [NX.out, rowI_append]; exact R3.out, B3.out⟩
    · have : j = n := by omega
      subst this
      have k1 : ¬ (j : Int) < (j : Int) := by omega
      by_cases e3 : kd = 3
      · have hl := Y3.out e3
        subst e3
        have HL := Lib.hid hl
        have SW := Lib.hid (srcI_below P0.out BR.out)
        have KW : Hid (∀ w, Below wr.heap.size wr w → w.cell? ⟨g, 35, none⟩ = some (.slice B m d)) := Lib.hid fun w hw => (KC.out w (BR.out.trans (hw.mono BR.out.size))).2.2.2
        clear Y3 N3 hl hj hlt RQ KC S0 P0 BR L0
        go_wp2_with (first
          | (refine wpl_loadS rfl 24 (.tmp 25) rfl ⟨g, 3, none⟩ rfl (encI tr) Tryz.isAgg24 IT.out Y0.out ?_)
          | (refine wpl_buildE idtE rfl 25 24 1 _ rfl [tr] rfl rfl (.agg zero32.toArray) 32 Tryz.underlying25 Tryz.infoIdz (by decide) (by decide) ?_; have R1 := Lib.hid (row_new idtE wr W.heap.size 24 [tr] low.out.size (show (1 : Nat) ≤ maxLen by decide)); have L1 := Lib.hid (low.out.alloc low.out.size (.cells (idtE.row [tr]).toArray 24)); have B1 : Hid (Below wr.heap.size wr (wr.alloc (.cells (idtE.row [tr]).toArray 24))) := Lib.hid ((Below.refl _ _).alloc (Nat.le_refl _) _); have kp1 := KW.out _ B1.out; have S1 := Lib.hid (srcI_below SW.out B1.out); generalize wr.heap.size = g1 at R1 B1 ⊢; generalize World.alloc wr (.cells (idtE.row [tr]).toArray 24) = w1 at R1 L1 B1 kp1 S1 ⊢)
          | (at_builtin; refine wpl_append rfl (.tmp 27) (.tmp 30) 25 rfl W.heap.size 24 (.agg zero32.toArray) 32 32 Tryz.underlying25 Tryz.infoIdz rfl (by decide) (.slice (some ⟨g1, 0, none⟩) 1 1) 1 (rowI [tr]) rfl R1.out B m d (rowI ps) rfl S1.out (by have := HM.out; omega) (by have := HM.out; omega) L1.out.size ?_; intro v2 w2 hr2 hg2 ha2; have R2 := Lib.hid hr2; have L2 := Lib.hid (L1.out.grown hg2 L1.out.size (fun k e => (R1.out.lt k e).1)); clear hr2 hg2 ha2))
        go_ret
        have e : lo.length = 1 + m := by rw [HL.out, List.length_append, PN.out]; rfl
        have e2 : rowI lo = rowI [tr] ++ rowI ps := by rw [HL.out]; exact rowI_append _ _
        obtain ⟨A2, d2, rfl, _, _⟩ := R2.out.shape
        refine ⟨A2, d2, by rw [e]; rfl, ?_, L2.out⟩
        rw [e, e2]
        exact R2.out
      · have hl := N3.out e3
        have f3 : (kd == (3 : Int)) = false := by simpa using e3
        have hrow := RQ.out
        rw [List.take_of_length_le (by have := LN.out; omega)] at hrow
        have LM := Lib.hid (show lo.length = j by rw [hl]; simp [LN.out])
        rw [← hl] at hrow
        have RW := Lib.hid hrow
        clear hrow RQ hj hlt Y3 N3 hl KC S0 P0 Y0 Y4
        go_wp2
        go_ret
        unfold LinksPost
        rw [LM.out]
        exact ⟨A1, c1, rfl, RW.out.mono L0.out.size, L0.out.trans (BR.out.mono L0.out.size)⟩
end Go.Proofs.YtpbnigpdpkfpaaaGreatDoor
namespace Go.Proofs.YtpbnigpdpkfpaaaGreatDoor
open Go.RowKit
theorem ent_at {w0 : World} {A : Option Addr} {n : Nat} {l : List Ent} (S : Src w0 entE.k A n (entE.row l)) (t : Nat) (ht : t < n) : ∃ b o, A = some ⟨b, o, none⟩ ∧ ∀ w, Below w0.heap.size w0 w → ∀ i v, (encE l[t]!)[i]? = some v → w.cell? ((⟨b, o + t * 34, none⟩ : Addr).add i) = some v := by
  obtain ⟨_, b1, o1, rfl, _⟩ := entE.src_at S (by omega)
  refine ⟨b1, o1, rfl, fun w hw => ?_⟩
  obtain ⟨_, b3, o3, e3, ct3⟩ := entE.src_at (entE.src_below S hw) (by omega)
  injection e3 with e3
  injection e3 with e4 e5 _
  subst e4; subst e5
  exact entE.at_elem (ct3 t ht)
set_option maxRecDepth 20000 in
set_option maxHeartbeats 6400000 in
theorem reqO_any (W : World) (a b : Obt) (A1 : Option Addr) (n1 k1 : Nat) (B1 : Option Addr) (m1 d1 : Nat) (A2 : Option Addr) (n2 k2 : Nat) (B2 : Option Addr) (m2 d2 : Nat) (ha : ObAt W a A1 n1 k1 B1 m1 d1) (hb : ObAt W b A2 n2 k2 B2 m2 d2)
    (h1 : n1 ≤ 1099511627776) (_h2 : n2 ≤ 1099511627776) (h3 : m1 ≤ 1099511627776) (h4 : m2 ≤ 1099511627776) :
    Calls Tryz.prog 23 #[.agg (objL a A1 n1 k1 B1 m1 d1).toArray, .agg (objL b A2 n2 k2 B2 m2 d2).toArray] W fun e W' => e = .returned (.bool (eqO a b)) ∧ Below W.heap.size W W' := by
  obtain ⟨ba, hba⟩ : ∃ ba : ByteArray, ba = ⟨a.blob.toArray⟩ := ⟨_, rfl⟩
  obtain ⟨bb, hbb⟩ : ∃ bb : ByteArray, bb = ⟨b.blob.toArray⟩ := ⟨_, rfl⟩
  have K1 := (ObBlk.of (Blk.new W 30 (objL a A1 n1 k1 B1 m1 d1))).below (((Below.refl _ (W.alloc (.cells (objL a A1 n1 k1 B1 m1 d1).toArray 30))).alloc (Nat.le_refl _) (.cells (objL b A2 n2 k2 B2 m2 d2).toArray 30)))
  have K2 := ObBlk.of (Blk.new (W.alloc (.cells (objL a A1 n1 k1 B1 m1 d1).toArray 30)) 30 (objL b A2 n2 k2 B2 m2 d2))
  rw [← hba] at K1
  rw [← hbb, hsz] at K2
  have l0 := ((Below.refl W.heap.size W).alloc (Nat.le_refl _) (.cells (objL a A1 n1 k1 B1 m1 d1).toArray 30)).alloc (by rw [hsz]; omega) (.cells (objL b A2 n2 k2 B2 m2 d2).toArray 30)
  obtain ⟨cs1, hcs1⟩ : ∃ cs, cs = objL a A1 n1 k1 B1 m1 d1 := ⟨_, rfl⟩
  obtain ⟨cs2, hcs2⟩ : ∃ cs, cs = objL b A2 n2 k2 B2 m2 d2 := ⟨_, rfl⟩
  obtain ⟨w0, hw0⟩ : ∃ w0, w0 = (W.alloc (.cells (objL a A1 n1 k1 B1 m1 d1).toArray 30)).alloc (.cells (objL b A2 n2 k2 B2 m2 d2).toArray 30) := ⟨_, rfl⟩
  rw [← hw0] at K1 K2 l0
  rw [← hcs1, ← hcs2] at hw0 ⊢
  have S1 := entE.src_below ha.row l0
  have S2 := entE.src_below hb.row l0
  obtain ⟨g1, hg1⟩ : ∃ g1, g1 = W.heap.size := ⟨_, rfl⟩
  obtain ⟨g2, hg2⟩ : ∃ g2, g2 = W.heap.size + 1 := ⟨_, rfl⟩
  rw [← hg1] at K1
  rw [← hg2] at K2
  have x0 := K1.kd
  have x1 := K1.blob
  have x2 := K1.ents
  have y0 := K2.kd
  have y1 := K2.blob
  have y2 := K2.ents
  have XC : Hid (∀ w', Below w0.heap.size w0 w' → ∀ j v, (comL a.com B1 m1 d1)[j]? = some v → w'.cell? ((⟨g1, 3, none⟩ : Addr).add j) = some v) := Lib.hid fun w' hw j v hv => (K1.below hw).com j v hv
  have YC : Hid (∀ w', Below w0.heap.size w0 w' → ∀ j v, (comL b.com B2 m2 d2)[j]? = some v → w'.cell? ((⟨g2, 3, none⟩ : Addr).add j) = some v) := Lib.hid fun w' hw j v hv => (K2.below hw).com j v hv
  have IA := Lib.hid (infoC a.com B1 m1 d1)
  have IB := Lib.hid (infoC b.com B2 m2 d2)
  have LN1 := Lib.hid ha.len
  have LN2 := Lib.hid hb.len
  have KX : Hid (∀ w', Below w0.heap.size w0 w' → w'.cell? ⟨g1, 2, none⟩ = some (.slice A1 n1 k1)) := Lib.hid fun w' hw => (K1.below hw).ents
  have KY : Hid (∀ w', Below w0.heap.size w0 w' → w'.cell? ⟨g2, 2, none⟩ = some (.slice A2 n2 k2)) := Lib.hid fun w' hw => (K2.below hw).ents
  have cC : ∀ w, Below w0.heap.size w0 w → Calls Tryz.prog 67 #[.agg (comL a.com B1 m1 d1).toArray, .agg (comL b.com B2 m2 d2).toArray] w fun e w' => e = .returned (.bool (eqC a.com b.com)) ∧ Below w.heap.size w w' := fun w hw =>
    reqC_any w a.com b.com B1 m1 d1 B2 m2 d2 (ha.com.below (l0.trans (hw.mono l0.size))) (hb.com.below (l0.trans (hw.mono l0.size))) h3 h4
  have hkk := dec_int a.kd b.kd
  have hnn := dec_note a.blob b.blob ba bb hba hbb
  obtain ⟨r, hr⟩ : ∃ r, r = eqO a b := ⟨_, rfl⟩
  rw [← hr]
  unfold eqO at hr
  obtain ⟨ea, hea⟩ : ∃ ea, ea = a.ents := ⟨_, rfl⟩
  obtain ⟨eb, heb⟩ : ∃ eb, eb = b.ents := ⟨_, rfl⟩
  rw [← hea, ← heb] at hr
  rw [← hea] at S1 LN1
  rw [← heb] at S2 LN2
  generalize decide (a.kd = b.kd) = t at hkk hr
  generalize decide (a.blob = b.blob) = p at hnn hr
  generalize eqC a.com b.com = u at cC hr
  generalize a.kd = ka at x0 hkk
  generalize b.kd = kb at y0 hkk
  generalize comL a.com B1 m1 d1 = ca at XC IA cC
  generalize comL b.com B2 m2 d2 = cb at YC IB cC
  have CC := Lib.hid cC
  have L0 := Lib.hid l0
  have SX := Lib.hid S1
  have SY := Lib.hid S2
  have n9 : (n1 : Int) ≤ 1099511627776 := by omega
  have H1 := Lib.hid h1
  clear ha hb K1 K2 l0 S1 S2 cC hcs1 hcs2 hba hbb h1 _h2 h3 h4 hea heb
  go_enter Tryz.func23, Tryz.ntmps23
  go_upto_region 1 with fail
  change Code.wp _ _ _ _ ((W.alloc (.cells cs1.toArray 30)).alloc (.cells cs2.toArray 30))
  rw [← hw0, ← hg2, ← hg1]
  clear hw0 hg1 hg2
  have hkk2 : (ka != kb) = !t := by rw [bne, hkk]
  have hnn2 : (ba.toList != bb.toList) = !p := by rw [bne, hnn]
  cases t
  · as_aux_lemma =>
      simp only [Bool.not_false] at hkk2
      have HR := Lib.hid (show r = false by rw [hr]; rfl)
      clear hr
      go_wp2
      go_ret
      exact ⟨by rw [HR.out]; rfl, L0.out⟩
  · simp only [Bool.not_true] at hkk2
    cases p
    · as_aux_lemma =>
        simp only [Bool.not_false] at hnn2
        have HR := Lib.hid (show r = false by rw [hr]; rfl)
        clear hr
        go_wp2
        go_ret
        exact ⟨by rw [HR.out]; rfl, L0.out⟩
    · simp only [Bool.not_true] at hnn2
      by_cases hnm : n1 = n2
      · subst hnm
        have f1 : ((n1 : Int) != (n1 : Int)) = false := by simp
        have xc := Lib.hid (XC.out _ (Below.refl _ _))
        have yc := Lib.hid (YC.out _ (Below.refl _ _))
        cases u
        · as_aux_lemma =>
            have HR := Lib.hid (show r = false by rw [hr]; simp)
            clear hr
            go_wp2_with (first
              | (refine wpl_guard (by rfl) ?_; refine wpl_loadS rfl 28 (.tmp 28) rfl ⟨g1, 3, none⟩ rfl ca Tryz.isAgg28 IA.out xc.out ?_)
              | (refine wpl_guard (by rfl) ?_; refine wpl_loadS rfl 28 (.tmp 30) rfl ⟨g2, 3, none⟩ rfl cb Tryz.isAgg28 IB.out yc.out ?_)
              | (go_at_call 67; refine (CC.out _ (Below.refl _ _)).mono ?_; rintro e w2 ⟨rfl, hb2⟩; have W2 := Lib.hid hb2; clear hb2))
            go_ret
            exact ⟨by rw [HR.out]; rfl, L0.out.trans (W2.out.mono L0.out.size)⟩
        · have HR := Lib.hid (show r = decide (ea = eb) by rw [hr]; simp)
          clear hr
          go_upto_region 3 with (first
              | (refine wpl_guard (by rfl) ?_; refine wpl_loadS rfl 28 (.tmp 28) rfl ⟨g1, 3, none⟩ rfl ca Tryz.isAgg28 IA.out xc.out ?_)
              | (refine wpl_guard (by rfl) ?_; refine wpl_loadS rfl 28 (.tmp 30) rfl ⟨g2, 3, none⟩ rfl cb Tryz.isAgg28 IB.out yc.out ?_)
              | (go_at_call 67; refine (CC.out _ (Below.refl _ _)).mono ?_; rintro e w2 ⟨rfl, hb2⟩; have W2 := Lib.hid hb2; clear hb2))
          clear x0 x1 x2 y0 y1 y2 hkk hnn hkk2 hnn2 XC YC IA IB CC xc yc f1
          go_upto_region 4 with fail
          go_loopw [5] (fun i wr => ∃ j : Nat, j ≤ n1 ∧ i = .int .i64 j ∧ Below w0.heap.size w0 wr ∧ ∀ s, s < j → ea[s]! = eb[s]!) (fun i _ => n1 - (intOf i).toNat)
          case atStart => exact ⟨0, Nat.zero_le _, rfl, W2.out, fun s hs => absurd hs (Nat.not_lt_zero s)⟩
          case round =>
            obtain ⟨j, hj, rfl, hb, hall⟩ := hrel
            have BR := Lib.hid hb
            have HA := Lib.hid hall
            have x2 := KX.out wr hb
            have hemp := ext_nonempty wr
            by_cases hlt : j < n1
            · have j1 : (j : Int) < (n1 : Int) := by omega
              obtain ⟨b1, o1, rfl, ce1⟩ := ent_at SX.out j hlt
              obtain ⟨b2, o2, rfl, ce2⟩ := ent_at SY.out j hlt
              have CX : Hid (∀ w, (∃ s : Ext wr, w = s.at_) → ∀ i v, (encE ea[j]!)[i]? = some v → w.cell? ((⟨b1, o1 + j * 34, none⟩ : Addr).add i) = some v) := Lib.hid fun w ⟨s, hs⟩ => by subst hs; exact ce1 _ (BR.out.trans (s.below.mono BR.out.size))
              have CY : Hid (∀ w, (∃ s : Ext wr, w = s.at_) → ∀ i v, (encE eb[j]!)[i]? = some v → w.cell? ((⟨b2, o2 + j * 34, none⟩ : Addr).add i) = some v) := Lib.hid fun w ⟨s, hs⟩ => by subst hs; exact ce2 _ (BR.out.trans (s.below.mono BR.out.size))
              have e1 : ∀ s : Ext wr, s.at_.cell? ⟨g1, 2, none⟩ = some (.slice (some ⟨b1, o1, none⟩) n1 k1) := fun s => KX.out _ (BR.out.trans (s.below.mono BR.out.size))
              have e2 : ∀ s : Ext wr, s.at_.cell? ⟨g2, 2, none⟩ = some (.slice (some ⟨b2, o2, none⟩) n1 k2) := fun s => KY.out _ (BR.out.trans (s.below.mono BR.out.size))
              have jw : wrap64 ((j : Int) + 1) = ((j + 1 : Nat) : Int) := by unfold wrap64; omega
              obtain ⟨q, hq⟩ : ∃ q, q = decide (ea[j]! = eb[j]!) := ⟨_, rfl⟩
              have ne : ∀ w, (binOp .neq 99 (.agg (encE ea[j]!).toArray) (.agg (encE eb[j]!).toArray)).run Tryz.prog w = .ok (.bool (!q)) w := fun w => by rw [hq]; exact neqAtE.1 ea[j]! eb[j]! w
              have gu : ∀ op p q w, (eqGuard op 99 p q (.agg (encE ea[j]!).toArray) (.agg (encE eb[j]!).toArray)).run Tryz.prog w = .ok () w := fun op p q w => neqAtE.2 op p q ea[j]! eb[j]! w
              have I1 := Lib.hid (infoE ea[j]!)
              have I2 := Lib.hid (infoE eb[j]!)
              have HQ := Lib.hid hq
              have JN := Lib.hid hlt
              clear hb hall hj hlt ce1 ce2 hq
              generalize encE ea[j]! = va at CX I1 ne gu
              generalize encE eb[j]! = vb at CY I2 ne gu
              go_upto_region 6 with fail
              refine wp_region_ext (by kernel_rfl) (by kernel_rfl) ?_
              cases q
              · repeat (first
                  | go_big_quiet_step (fail)
                  | (refine wpQuiet_loadS (by rfl) 99 (.tmp 45) rfl ⟨b1, o1 + j * 34, none⟩ rfl va Tryz.isAgg99 I1.out CX.out ?_)
                  | (refine wpQuiet_loadS (by rfl) 99 (.tmp 50) rfl ⟨b2, o2 + j * 34, none⟩ rfl vb Tryz.isAgg99 I2.out CY.out ?_)
                  | quiet_step (fail))
                refine wpQuiet_nil ?_
                rintro _ ⟨s9, rfl⟩
                have HR2 : Hid (r = false) := Lib.hid (by rw [HR.out]; refine decide_eq_false fun e => ?_; rw [e, decide_eq_true rfl] at HQ; cases HQ.out)
                clear ne gu e1 e2 CX CY
                go_wp2
                go_ret
                exact ⟨by rw [HR2.out]; rfl, L0.out.trans ((BR.out.trans (s9.below.mono BR.out.size)).mono L0.out.size)⟩
              · repeat (first
                  | go_big_quiet_step (fail)
                  | (refine wpQuiet_loadS (by rfl) 99 (.tmp 45) rfl ⟨b1, o1 + j * 34, none⟩ rfl va Tryz.isAgg99 I1.out CX.out ?_)
                  | (refine wpQuiet_loadS (by rfl) 99 (.tmp 50) rfl ⟨b2, o2 + j * 34, none⟩ rfl vb Tryz.isAgg99 I2.out CY.out ?_)
                  | quiet_step (fail))
                refine wpQuiet_nil ?_
                rintro _ ⟨s9, rfl⟩
                clear ne gu e1 e2 CX CY
                go_wp2
                go_roundw
                case measure => simp [intOf]; have := JN.out; omega
                case rel => exact ⟨j + 1, JN.out, by go_num, BR.out.trans (s9.below.mono BR.out.size), fun s hs => by
                  rcases Nat.lt_or_ge s j with h | h
                  · exact HA.out s h
                  · rw [show s = j by omega]; exact of_decide_eq_true HQ.out.symm⟩
            · have hjn : j = n1 := by omega
              subst hjn
              have HR2 : Hid (r = true) := Lib.hid (by
                rw [HR.out]
                refine decide_eq_true (List.ext_getElem (by rw [LN1.out, LN2.out]) fun s h5 h6 => ?_)
                have := hall s (by rw [← LN1.out]; exact h5)
                rwa [getElem!_pos ea s h5, getElem!_pos eb s h6] at this)
              have j1 : ¬ (j : Int) < (j : Int) := by omega
              clear hall hb hj hlt
              go_wp2
              go_ret
              exact ⟨by rw [HR2.out]; rfl, L0.out.trans (BR.out.mono L0.out.size)⟩
      · as_aux_lemma =>
          have HR := Lib.hid (show r = false by
            have : ¬ ea = eb := fun e => hnm (by rw [← LN1.out, ← LN2.out, e])
            rw [hr, decide_eq_false this]; simp)
          have f1 : ((n1 : Int) != (n2 : Int)) = true := by simp; omega
          have f2 : ¬ (n1 : Int) = (n2 : Int) := by omega
          clear hr
          go_wp2
          go_ret
          exact ⟨by rw [HR.out]; rfl, L0.out⟩
end Go.Proofs.YtpbnigpdpkfpaaaGreatDoor
