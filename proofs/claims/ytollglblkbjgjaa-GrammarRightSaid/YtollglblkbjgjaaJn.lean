/- Rows of words that are put together, and what of them reads in memory. Conditions: none. -/
import Derived.Test.YtollglblkbjgjaaHl
import Derived.Test.YtollglblkbjgjaaJk
import Derived.Test.YtollglblkbjgjaaGx
import Derived.Test.YtollglblkbjgjaaPe
import Derived.Deep.Upon
namespace Go.Proofs.Ytollglblkbjgjaa
open Go.RowKit

/-- a table of a dialect's words -/
structure Tab where
 V : List ByteArray
 A : List ByteArray
 B : List ByteArray
 s1 : ByteArray
 s2 : ByteArray
 s3 : ByteArray
 s4 : ByteArray
 s5 : ByteArray
 s6 : ByteArray
 s7 : ByteArray
 s8 : ByteArray
 b1 : Bool
 b2 : Bool
 b3 : Bool
/-- the parser's environment out of such a table -/
def tabE (T : Tab) (vA : Option Addr) (vc : Nat) (aA : Option Addr) (ac : Nat) (bA : Option Addr) (bc : Nat) (lA : Option Addr) (lc : Nat) (L : List Tok) (en : Int) : Env :=
 ⟨vA, vc, T.V, aA, ac, T.A, bA, bc, T.B, T.s1, T.s2, T.s3, T.s4, T.s5, T.s6, T.s7, T.s8, T.b1, T.b2, T.b3, lA, lc, L, en⟩
/-- texts that stay in each world that has the same blocks from R on -/
def StrsKept (R : Nat) (w : World) (A : Option Addr) (l : List ByteArray) : Prop := ∀ w2 : World, w.heap.size ≤ w2.heap.size → (∀ b, R ≤ b → b < w.heap.size → w2.heap[b]? = w.heap[b]?) → StrsAt w2 A l
theorem strs_kept {R b t : Nat} {w : World} {fr : Nat × Nat} {l : List ByteArray} (hR : R ≤ b) (h : w.heap[b]? = some (.cells (l.map Value.string).toArray t fr)) : StrsKept R w (some ⟨b, 0, none⟩) l :=
 fun _ _ hag => strs_blk ((hag b hR (blk_lt h)).trans h)
theorem strs_kept_nil (R : Nat) (w : World) (A : Option Addr) : StrsKept R w A [] := fun _ _ _ h => by simp at h
def TabTo (T : Tab) (w : World) (e : Ending) (w' : World) : Prop := Below w.heap.size w w' ∧ ∃ (vA aA bA : Option Addr) (vc ac bc : Nat), (∀ lA lc L en, e = .returned (tabE T vA vc aA ac bA bc lA lc L en).gramV) ∧ StrsKept w.heap.size w' vA T.V ∧ StrsKept w.heap.size w' aA T.A ∧ StrsKept w.heap.size w' bA T.B
/-- what is wanted of a table -/
structure TabOK (T : Tab) : Prop where
 op : ((⟨#[40]⟩ : ByteArray).toList == T.s3.toList) = false
 vs : ∀ x ∈ T.V, hasStr T.V x = true ∧ (x.toList == T.s1.toList) = false ∧ x.size ≤ 8
 hav : ∀ x, hasStr T.A x = true → hasStr T.V x = false ∧ (x.toList == T.s1.toList) = false
 hpv : ∀ x : ByteArray, (x.toList == T.s2.toList) = true → hasStr T.V x = false ∧ ((x.toList == T.s1.toList) = false ∨ T.s1.toList = [])
 vn : 0 < T.V.length ∧ T.V.length ≤ 100
 an : T.A.length ≤ 100
 bn : T.B.length ≤ 100
theorem has_like (l : List ByteArray) {x y : ByteArray} (h : x.toList = y.toList) : hasStr l x = hasStr l y := by
 rw [ByteArray.toList_eq, ByteArray.toList_eq] at h
 have : x = y := ByteArray.ext (Array.toList_inj.1 h)
 rw [this]
theorem tab_hav {V A : List ByteArray} {o : ByteArray} (h : ∀ y ∈ A, hasStr V y = false ∧ (y.toList == o.toList) = false) (x : ByteArray) (hx : hasStr A x = true) : hasStr V x = false ∧ (x.toList == o.toList) = false := by
 obtain ⟨y, hy, he⟩ := List.any_eq_true.1 hx
 have he := beq_iff_eq.1 he
 obtain ⟨h1, h2⟩ := h y hy
 exact ⟨(has_like V he).trans h1, by rw [he]; exact h2⟩
theorem tab_hpv {V : List ByteArray} {o p : ByteArray} (h : hasStr V p = false ∧ ((p.toList == o.toList) = false ∨ o.toList = [])) (x : ByteArray) (hx : (x.toList == p.toList) = true) : hasStr V x = false ∧ ((x.toList == o.toList) = false ∨ o.toList = []) := by
 have he := beq_iff_eq.1 hx
 rw [has_like V he, he]
 exact h
def aplT : Tab := ⟨[⟨#[43]⟩, ⟨#[45]⟩, ⟨#[195, 151]⟩, ⟨#[124]⟩, ⟨#[126]⟩, ⟨#[226, 141, 179]⟩, ⟨#[226, 141, 180]⟩, ⟨#[226, 137, 162]⟩, ⟨#[44]⟩, ⟨#[226, 138, 150]⟩, ⟨#[226, 140, 189]⟩, ⟨#[226, 141, 137]⟩, ⟨#[226, 141, 139]⟩, ⟨#[226, 141, 146]⟩, ⟨#[226, 136, 170]⟩, ⟨#[226, 138, 130]⟩, ⟨#[226, 138, 131]⟩, ⟨#[195, 183]⟩, ⟨#[226, 140, 138]⟩, ⟨#[226, 140, 136]⟩, ⟨#[61]⟩, ⟨#[226, 137, 160]⟩, ⟨#[60]⟩, ⟨#[62]⟩, ⟨#[226, 137, 164]⟩, ⟨#[226, 137, 165]⟩, ⟨#[226, 134, 145]⟩, ⟨#[226, 134, 147]⟩, ⟨#[226, 141, 170]⟩, ⟨#[226, 136, 138]⟩, ⟨#[226, 140, 183]⟩], [⟨#[47]⟩, ⟨#[226, 140, 191]⟩, ⟨#[92]⟩, ⟨#[226, 141, 128]⟩, ⟨#[226, 141, 168]⟩], [⟨#[47]⟩, ⟨#[226, 140, 191]⟩], ⟨#[226, 136, 152, 46]⟩, ⟨#[226, 141, 163]⟩, ⟨#[123]⟩, ⟨#[125]⟩, ⟨#[226, 141, 186]⟩, ⟨#[226, 141, 181]⟩, ⟨#[194, 175]⟩, ⟨#[39]⟩, false, false, true⟩
set_option maxRecDepth 100000 in
theorem aplT_ok : TabOK aplT := ⟨by decide +kernel, by decide +kernel, tab_hav (by decide +kernel), tab_hpv (by decide +kernel), by decide, by decide, by decide⟩
set_option maxRecDepth 100000 in
set_option maxHeartbeats 4000000 in
theorem tab13_any (w : World) : Calls Try.prog 13 #[] w (TabTo aplT w) := by
 go_enter Try.func13, Try.ntmps13
 go_wp2
 have hr := (blk_alloc (blk_alloc (blk_alloc (blk_new w (.cells #[.slice (some ⟨w.heap.size + 1, 0, none⟩) 31 31, .slice (some ⟨w.heap.size + 1 + 1, 0, none⟩) 5 5, .slice (some ⟨w.heap.size + 1 + 1 + 1, 0, none⟩) 2 2, .string ⟨#[226, 136, 152, 46]⟩, .string ⟨#[226, 141, 163]⟩, .string ⟨#[123]⟩, .string ⟨#[125]⟩, .string ⟨#[226, 141, 186]⟩, .string ⟨#[226, 141, 181]⟩, .string ⟨#[194, 175]⟩, .string ⟨#[39]⟩, .bool false, .bool false, .bool true] 24)) (.cells #[.string ⟨#[43]⟩, .string ⟨#[45]⟩, .string ⟨#[195, 151]⟩, .string ⟨#[124]⟩, .string ⟨#[126]⟩, .string ⟨#[226, 141, 179]⟩, .string ⟨#[226, 141, 180]⟩, .string ⟨#[226, 137, 162]⟩, .string ⟨#[44]⟩, .string ⟨#[226, 138, 150]⟩, .string ⟨#[226, 140, 189]⟩, .string ⟨#[226, 141, 137]⟩, .string ⟨#[226, 141, 139]⟩, .string ⟨#[226, 141, 146]⟩, .string ⟨#[226, 136, 170]⟩, .string ⟨#[226, 138, 130]⟩, .string ⟨#[226, 138, 131]⟩, .string ⟨#[195, 183]⟩, .string ⟨#[226, 140, 138]⟩, .string ⟨#[226, 140, 136]⟩, .string ⟨#[61]⟩, .string ⟨#[226, 137, 160]⟩, .string ⟨#[60]⟩, .string ⟨#[62]⟩, .string ⟨#[226, 137, 164]⟩, .string ⟨#[226, 137, 165]⟩, .string ⟨#[226, 134, 145]⟩, .string ⟨#[226, 134, 147]⟩, .string ⟨#[226, 141, 170]⟩, .string ⟨#[226, 136, 138]⟩, .string ⟨#[226, 140, 183]⟩] 9)) (.cells #[.string ⟨#[47]⟩, .string ⟨#[226, 140, 191]⟩, .string ⟨#[92]⟩, .string ⟨#[226, 141, 128]⟩, .string ⟨#[226, 141, 168]⟩] 9)) (.cells #[.string ⟨#[47]⟩, .string ⟨#[226, 140, 191]⟩] 9))
 have sz : ∀ (W : World) (o : Obj), (W.alloc o).heap.size = W.heap.size + 1 := fun W o => by simp
 have hv := (blk_alloc (blk_alloc (blk_new (w.alloc (.cells #[.slice (some ⟨w.heap.size + 1, 0, none⟩) 31 31, .slice (some ⟨w.heap.size + 1 + 1, 0, none⟩) 5 5, .slice (some ⟨w.heap.size + 1 + 1 + 1, 0, none⟩) 2 2, .string ⟨#[226, 136, 152, 46]⟩, .string ⟨#[226, 141, 163]⟩, .string ⟨#[123]⟩, .string ⟨#[125]⟩, .string ⟨#[226, 141, 186]⟩, .string ⟨#[226, 141, 181]⟩, .string ⟨#[194, 175]⟩, .string ⟨#[39]⟩, .bool false, .bool false, .bool true] 24)) (.cells #[.string ⟨#[43]⟩, .string ⟨#[45]⟩, .string ⟨#[195, 151]⟩, .string ⟨#[124]⟩, .string ⟨#[126]⟩, .string ⟨#[226, 141, 179]⟩, .string ⟨#[226, 141, 180]⟩, .string ⟨#[226, 137, 162]⟩, .string ⟨#[44]⟩, .string ⟨#[226, 138, 150]⟩, .string ⟨#[226, 140, 189]⟩, .string ⟨#[226, 141, 137]⟩, .string ⟨#[226, 141, 139]⟩, .string ⟨#[226, 141, 146]⟩, .string ⟨#[226, 136, 170]⟩, .string ⟨#[226, 138, 130]⟩, .string ⟨#[226, 138, 131]⟩, .string ⟨#[195, 183]⟩, .string ⟨#[226, 140, 138]⟩, .string ⟨#[226, 140, 136]⟩, .string ⟨#[61]⟩, .string ⟨#[226, 137, 160]⟩, .string ⟨#[60]⟩, .string ⟨#[62]⟩, .string ⟨#[226, 137, 164]⟩, .string ⟨#[226, 137, 165]⟩, .string ⟨#[226, 134, 145]⟩, .string ⟨#[226, 134, 147]⟩, .string ⟨#[226, 141, 170]⟩, .string ⟨#[226, 136, 138]⟩, .string ⟨#[226, 140, 183]⟩] 9)) (.cells #[.string ⟨#[47]⟩, .string ⟨#[226, 140, 191]⟩, .string ⟨#[92]⟩, .string ⟨#[226, 141, 128]⟩, .string ⟨#[226, 141, 168]⟩] 9)) (.cells #[.string ⟨#[47]⟩, .string ⟨#[226, 140, 191]⟩] 9))
 rw [sz] at hv
 have ha := (blk_alloc (blk_new ((w.alloc (.cells #[.slice (some ⟨w.heap.size + 1, 0, none⟩) 31 31, .slice (some ⟨w.heap.size + 1 + 1, 0, none⟩) 5 5, .slice (some ⟨w.heap.size + 1 + 1 + 1, 0, none⟩) 2 2, .string ⟨#[226, 136, 152, 46]⟩, .string ⟨#[226, 141, 163]⟩, .string ⟨#[123]⟩, .string ⟨#[125]⟩, .string ⟨#[226, 141, 186]⟩, .string ⟨#[226, 141, 181]⟩, .string ⟨#[194, 175]⟩, .string ⟨#[39]⟩, .bool false, .bool false, .bool true] 24)).alloc (.cells #[.string ⟨#[43]⟩, .string ⟨#[45]⟩, .string ⟨#[195, 151]⟩, .string ⟨#[124]⟩, .string ⟨#[126]⟩, .string ⟨#[226, 141, 179]⟩, .string ⟨#[226, 141, 180]⟩, .string ⟨#[226, 137, 162]⟩, .string ⟨#[44]⟩, .string ⟨#[226, 138, 150]⟩, .string ⟨#[226, 140, 189]⟩, .string ⟨#[226, 141, 137]⟩, .string ⟨#[226, 141, 139]⟩, .string ⟨#[226, 141, 146]⟩, .string ⟨#[226, 136, 170]⟩, .string ⟨#[226, 138, 130]⟩, .string ⟨#[226, 138, 131]⟩, .string ⟨#[195, 183]⟩, .string ⟨#[226, 140, 138]⟩, .string ⟨#[226, 140, 136]⟩, .string ⟨#[61]⟩, .string ⟨#[226, 137, 160]⟩, .string ⟨#[60]⟩, .string ⟨#[62]⟩, .string ⟨#[226, 137, 164]⟩, .string ⟨#[226, 137, 165]⟩, .string ⟨#[226, 134, 145]⟩, .string ⟨#[226, 134, 147]⟩, .string ⟨#[226, 141, 170]⟩, .string ⟨#[226, 136, 138]⟩, .string ⟨#[226, 140, 183]⟩] 9)) (.cells #[.string ⟨#[47]⟩, .string ⟨#[226, 140, 191]⟩, .string ⟨#[92]⟩, .string ⟨#[226, 141, 128]⟩, .string ⟨#[226, 141, 168]⟩] 9)) (.cells #[.string ⟨#[47]⟩, .string ⟨#[226, 140, 191]⟩] 9))
 rw [sz, sz] at ha
 have hb := (blk_new (((w.alloc (.cells #[.slice (some ⟨w.heap.size + 1, 0, none⟩) 31 31, .slice (some ⟨w.heap.size + 1 + 1, 0, none⟩) 5 5, .slice (some ⟨w.heap.size + 1 + 1 + 1, 0, none⟩) 2 2, .string ⟨#[226, 136, 152, 46]⟩, .string ⟨#[226, 141, 163]⟩, .string ⟨#[123]⟩, .string ⟨#[125]⟩, .string ⟨#[226, 141, 186]⟩, .string ⟨#[226, 141, 181]⟩, .string ⟨#[194, 175]⟩, .string ⟨#[39]⟩, .bool false, .bool false, .bool true] 24)).alloc (.cells #[.string ⟨#[43]⟩, .string ⟨#[45]⟩, .string ⟨#[195, 151]⟩, .string ⟨#[124]⟩, .string ⟨#[126]⟩, .string ⟨#[226, 141, 179]⟩, .string ⟨#[226, 141, 180]⟩, .string ⟨#[226, 137, 162]⟩, .string ⟨#[44]⟩, .string ⟨#[226, 138, 150]⟩, .string ⟨#[226, 140, 189]⟩, .string ⟨#[226, 141, 137]⟩, .string ⟨#[226, 141, 139]⟩, .string ⟨#[226, 141, 146]⟩, .string ⟨#[226, 136, 170]⟩, .string ⟨#[226, 138, 130]⟩, .string ⟨#[226, 138, 131]⟩, .string ⟨#[195, 183]⟩, .string ⟨#[226, 140, 138]⟩, .string ⟨#[226, 140, 136]⟩, .string ⟨#[61]⟩, .string ⟨#[226, 137, 160]⟩, .string ⟨#[60]⟩, .string ⟨#[62]⟩, .string ⟨#[226, 137, 164]⟩, .string ⟨#[226, 137, 165]⟩, .string ⟨#[226, 134, 145]⟩, .string ⟨#[226, 134, 147]⟩, .string ⟨#[226, 141, 170]⟩, .string ⟨#[226, 136, 138]⟩, .string ⟨#[226, 140, 183]⟩] 9)).alloc (.cells #[.string ⟨#[47]⟩, .string ⟨#[226, 140, 191]⟩, .string ⟨#[92]⟩, .string ⟨#[226, 141, 128]⟩, .string ⟨#[226, 141, 168]⟩] 9)) (.cells #[.string ⟨#[47]⟩, .string ⟨#[226, 140, 191]⟩] 9))
 rw [sz, sz, sz] at hb
 have q0 := blk_cell hr 0
 have q1 := blk_cell hr 1
 have q2 := blk_cell hr 2
 have q3 := blk_cell hr 3
 have q4 := blk_cell hr 4
 have q5 := blk_cell hr 5
 have q6 := blk_cell hr 6
 have q7 := blk_cell hr 7
 have q8 := blk_cell hr 8
 have q9 := blk_cell hr 9
 have q10 := blk_cell hr 10
 have q11 := blk_cell hr 11
 have q12 := blk_cell hr 12
 have q13 := blk_cell hr 13
 refine bodyPost_ret (v := .agg #[.slice (some ⟨w.heap.size + 1, 0, none⟩) 31 31, .slice (some ⟨w.heap.size + 1 + 1, 0, none⟩) 5 5, .slice (some ⟨w.heap.size + 1 + 1 + 1, 0, none⟩) 2 2, .string ⟨#[226, 136, 152, 46]⟩, .string ⟨#[226, 141, 163]⟩, .string ⟨#[123]⟩, .string ⟨#[125]⟩, .string ⟨#[226, 141, 186]⟩, .string ⟨#[226, 141, 181]⟩, .string ⟨#[194, 175]⟩, .string ⟨#[39]⟩, .bool false, .bool false, .bool true]) (by simp [results, Try.results13, go_sem, q0, q1, q2, q3, q4, q5, q6, q7, q8, q9, q10, q11, q12, q13]) rfl ?_
 exact ⟨((((Below.refl _ w).alloc (Nat.le_refl _) _).alloc (by simp) _).alloc (by simp; omega) _).alloc (by simp; omega) _, _, _, _, _, _, _, fun _ _ _ _ => rfl, strs_kept (l := aplT.V) (by omega) hv, strs_kept (l := aplT.A) (by omega) ha, strs_kept (l := aplT.B) (by omega) hb⟩
def jayT : Tab := ⟨[⟨#[45, 46]⟩, ⟨#[124, 46]⟩, ⟨#[124, 58]⟩, ⟨#[60, 46]⟩, ⟨#[60, 58]⟩, ⟨#[62, 46]⟩, ⟨#[62, 58]⟩, ⟨#[126, 46]⟩, ⟨#[126, 58]⟩, ⟨#[44, 58]⟩, ⟨#[47, 58]⟩, ⟨#[92, 58]⟩, ⟨#[123, 46]⟩, ⟨#[125, 46]⟩, ⟨#[45]⟩, ⟨#[42]⟩, ⟨#[124]⟩, ⟨#[37]⟩, ⟨#[43]⟩, ⟨#[60]⟩, ⟨#[62]⟩, ⟨#[61]⟩, ⟨#[36]⟩, ⟨#[35]⟩, ⟨#[44]⟩, ⟨#[123]⟩, ⟨#[105, 46]⟩, ⟨#[101, 46]⟩], [⟨#[47]⟩, ⟨#[92]⟩, ⟨#[126]⟩, ⟨#[34, 49]⟩], [], ⟨#[]⟩, ⟨#[94, 58]⟩, ⟨#[123, 123]⟩, ⟨#[125, 125]⟩, ⟨#[120]⟩, ⟨#[121]⟩, ⟨#[95]⟩, ⟨#[39]⟩, true, false, false⟩
set_option maxRecDepth 100000 in
theorem jayT_ok : TabOK jayT := ⟨by decide +kernel, by decide +kernel, tab_hav (by decide +kernel), tab_hpv (by decide +kernel), by decide, by decide, by decide⟩
set_option maxRecDepth 100000 in
set_option maxHeartbeats 4000000 in
theorem tab15_any (w : World) : Calls Try.prog 15 #[] w (TabTo jayT w) := by
 go_enter Try.func15, Try.ntmps15
 go_wp2
 have hr := (blk_alloc (blk_alloc (blk_new w (.cells #[.slice (some ⟨w.heap.size + 1, 0, none⟩) 28 28, .slice (some ⟨w.heap.size + 1 + 1, 0, none⟩) 4 4, .slice none 0 0, .string ⟨#[]⟩, .string ⟨#[94, 58]⟩, .string ⟨#[123, 123]⟩, .string ⟨#[125, 125]⟩, .string ⟨#[120]⟩, .string ⟨#[121]⟩, .string ⟨#[95]⟩, .string ⟨#[39]⟩, .bool true, .bool false, .bool false] 24)) (.cells #[.string ⟨#[45, 46]⟩, .string ⟨#[124, 46]⟩, .string ⟨#[124, 58]⟩, .string ⟨#[60, 46]⟩, .string ⟨#[60, 58]⟩, .string ⟨#[62, 46]⟩, .string ⟨#[62, 58]⟩, .string ⟨#[126, 46]⟩, .string ⟨#[126, 58]⟩, .string ⟨#[44, 58]⟩, .string ⟨#[47, 58]⟩, .string ⟨#[92, 58]⟩, .string ⟨#[123, 46]⟩, .string ⟨#[125, 46]⟩, .string ⟨#[45]⟩, .string ⟨#[42]⟩, .string ⟨#[124]⟩, .string ⟨#[37]⟩, .string ⟨#[43]⟩, .string ⟨#[60]⟩, .string ⟨#[62]⟩, .string ⟨#[61]⟩, .string ⟨#[36]⟩, .string ⟨#[35]⟩, .string ⟨#[44]⟩, .string ⟨#[123]⟩, .string ⟨#[105, 46]⟩, .string ⟨#[101, 46]⟩] 9)) (.cells #[.string ⟨#[47]⟩, .string ⟨#[92]⟩, .string ⟨#[126]⟩, .string ⟨#[34, 49]⟩] 9))
 have sz : ∀ (W : World) (o : Obj), (W.alloc o).heap.size = W.heap.size + 1 := fun W o => by simp
 have hv := (blk_alloc (blk_new (w.alloc (.cells #[.slice (some ⟨w.heap.size + 1, 0, none⟩) 28 28, .slice (some ⟨w.heap.size + 1 + 1, 0, none⟩) 4 4, .slice none 0 0, .string ⟨#[]⟩, .string ⟨#[94, 58]⟩, .string ⟨#[123, 123]⟩, .string ⟨#[125, 125]⟩, .string ⟨#[120]⟩, .string ⟨#[121]⟩, .string ⟨#[95]⟩, .string ⟨#[39]⟩, .bool true, .bool false, .bool false] 24)) (.cells #[.string ⟨#[45, 46]⟩, .string ⟨#[124, 46]⟩, .string ⟨#[124, 58]⟩, .string ⟨#[60, 46]⟩, .string ⟨#[60, 58]⟩, .string ⟨#[62, 46]⟩, .string ⟨#[62, 58]⟩, .string ⟨#[126, 46]⟩, .string ⟨#[126, 58]⟩, .string ⟨#[44, 58]⟩, .string ⟨#[47, 58]⟩, .string ⟨#[92, 58]⟩, .string ⟨#[123, 46]⟩, .string ⟨#[125, 46]⟩, .string ⟨#[45]⟩, .string ⟨#[42]⟩, .string ⟨#[124]⟩, .string ⟨#[37]⟩, .string ⟨#[43]⟩, .string ⟨#[60]⟩, .string ⟨#[62]⟩, .string ⟨#[61]⟩, .string ⟨#[36]⟩, .string ⟨#[35]⟩, .string ⟨#[44]⟩, .string ⟨#[123]⟩, .string ⟨#[105, 46]⟩, .string ⟨#[101, 46]⟩] 9)) (.cells #[.string ⟨#[47]⟩, .string ⟨#[92]⟩, .string ⟨#[126]⟩, .string ⟨#[34, 49]⟩] 9))
 rw [sz] at hv
 have ha := (blk_new ((w.alloc (.cells #[.slice (some ⟨w.heap.size + 1, 0, none⟩) 28 28, .slice (some ⟨w.heap.size + 1 + 1, 0, none⟩) 4 4, .slice none 0 0, .string ⟨#[]⟩, .string ⟨#[94, 58]⟩, .string ⟨#[123, 123]⟩, .string ⟨#[125, 125]⟩, .string ⟨#[120]⟩, .string ⟨#[121]⟩, .string ⟨#[95]⟩, .string ⟨#[39]⟩, .bool true, .bool false, .bool false] 24)).alloc (.cells #[.string ⟨#[45, 46]⟩, .string ⟨#[124, 46]⟩, .string ⟨#[124, 58]⟩, .string ⟨#[60, 46]⟩, .string ⟨#[60, 58]⟩, .string ⟨#[62, 46]⟩, .string ⟨#[62, 58]⟩, .string ⟨#[126, 46]⟩, .string ⟨#[126, 58]⟩, .string ⟨#[44, 58]⟩, .string ⟨#[47, 58]⟩, .string ⟨#[92, 58]⟩, .string ⟨#[123, 46]⟩, .string ⟨#[125, 46]⟩, .string ⟨#[45]⟩, .string ⟨#[42]⟩, .string ⟨#[124]⟩, .string ⟨#[37]⟩, .string ⟨#[43]⟩, .string ⟨#[60]⟩, .string ⟨#[62]⟩, .string ⟨#[61]⟩, .string ⟨#[36]⟩, .string ⟨#[35]⟩, .string ⟨#[44]⟩, .string ⟨#[123]⟩, .string ⟨#[105, 46]⟩, .string ⟨#[101, 46]⟩] 9)) (.cells #[.string ⟨#[47]⟩, .string ⟨#[92]⟩, .string ⟨#[126]⟩, .string ⟨#[34, 49]⟩] 9))
 rw [sz, sz] at ha
 have q0 := blk_cell hr 0
 have q1 := blk_cell hr 1
 have q2 := blk_cell hr 2
 have q3 := blk_cell hr 3
 have q4 := blk_cell hr 4
 have q5 := blk_cell hr 5
 have q6 := blk_cell hr 6
 have q7 := blk_cell hr 7
 have q8 := blk_cell hr 8
 have q9 := blk_cell hr 9
 have q10 := blk_cell hr 10
 have q11 := blk_cell hr 11
 have q12 := blk_cell hr 12
 have q13 := blk_cell hr 13
 refine bodyPost_ret (v := .agg #[.slice (some ⟨w.heap.size + 1, 0, none⟩) 28 28, .slice (some ⟨w.heap.size + 1 + 1, 0, none⟩) 4 4, .slice none 0 0, .string ⟨#[]⟩, .string ⟨#[94, 58]⟩, .string ⟨#[123, 123]⟩, .string ⟨#[125, 125]⟩, .string ⟨#[120]⟩, .string ⟨#[121]⟩, .string ⟨#[95]⟩, .string ⟨#[39]⟩, .bool true, .bool false, .bool false]) (by simp [results, Try.results15, go_sem, q0, q1, q2, q3, q4, q5, q6, q7, q8, q9, q10, q11, q12, q13]) rfl ?_
 exact ⟨(((Below.refl _ w).alloc (Nat.le_refl _) _).alloc (by simp) _).alloc (by simp; omega) _, _, _, none, _, _, 0, fun _ _ _ _ => rfl, strs_kept (l := jayT.V) (by omega) hv, strs_kept (l := jayT.A) (by omega) ha, strs_kept_nil _ _ _⟩
def kayT : Tab := ⟨[⟨#[43]⟩, ⟨#[45]⟩, ⟨#[42]⟩, ⟨#[37]⟩, ⟨#[38]⟩, ⟨#[124]⟩, ⟨#[60]⟩, ⟨#[62]⟩, ⟨#[61]⟩, ⟨#[126]⟩, ⟨#[33]⟩, ⟨#[35]⟩, ⟨#[95]⟩, ⟨#[44]⟩, ⟨#[94]⟩, ⟨#[63]⟩, ⟨#[64]⟩], [⟨#[47]⟩, ⟨#[92]⟩], [], ⟨#[]⟩, ⟨#[]⟩, ⟨#[123]⟩, ⟨#[125]⟩, ⟨#[120]⟩, ⟨#[121]⟩, ⟨#[45]⟩, ⟨#[34]⟩, false, true, true⟩
set_option maxRecDepth 100000 in
theorem kayT_ok : TabOK kayT := ⟨by decide +kernel, by decide +kernel, tab_hav (by decide +kernel), tab_hpv (by decide +kernel), by decide, by decide, by decide⟩
set_option maxRecDepth 100000 in
set_option maxHeartbeats 4000000 in
theorem tab17_any (w : World) : Calls Try.prog 17 #[] w (TabTo kayT w) := by
 go_enter Try.func17, Try.ntmps17
 go_wp2
 have hr := (blk_alloc (blk_alloc (blk_new w (.cells #[.slice (some ⟨w.heap.size + 1, 0, none⟩) 17 17, .slice (some ⟨w.heap.size + 1 + 1, 0, none⟩) 2 2, .slice none 0 0, .string ⟨#[]⟩, .string ⟨#[]⟩, .string ⟨#[123]⟩, .string ⟨#[125]⟩, .string ⟨#[120]⟩, .string ⟨#[121]⟩, .string ⟨#[45]⟩, .string ⟨#[34]⟩, .bool false, .bool true, .bool true] 24)) (.cells #[.string ⟨#[43]⟩, .string ⟨#[45]⟩, .string ⟨#[42]⟩, .string ⟨#[37]⟩, .string ⟨#[38]⟩, .string ⟨#[124]⟩, .string ⟨#[60]⟩, .string ⟨#[62]⟩, .string ⟨#[61]⟩, .string ⟨#[126]⟩, .string ⟨#[33]⟩, .string ⟨#[35]⟩, .string ⟨#[95]⟩, .string ⟨#[44]⟩, .string ⟨#[94]⟩, .string ⟨#[63]⟩, .string ⟨#[64]⟩] 9)) (.cells #[.string ⟨#[47]⟩, .string ⟨#[92]⟩] 9))
 have sz : ∀ (W : World) (o : Obj), (W.alloc o).heap.size = W.heap.size + 1 := fun W o => by simp
 have hv := (blk_alloc (blk_new (w.alloc (.cells #[.slice (some ⟨w.heap.size + 1, 0, none⟩) 17 17, .slice (some ⟨w.heap.size + 1 + 1, 0, none⟩) 2 2, .slice none 0 0, .string ⟨#[]⟩, .string ⟨#[]⟩, .string ⟨#[123]⟩, .string ⟨#[125]⟩, .string ⟨#[120]⟩, .string ⟨#[121]⟩, .string ⟨#[45]⟩, .string ⟨#[34]⟩, .bool false, .bool true, .bool true] 24)) (.cells #[.string ⟨#[43]⟩, .string ⟨#[45]⟩, .string ⟨#[42]⟩, .string ⟨#[37]⟩, .string ⟨#[38]⟩, .string ⟨#[124]⟩, .string ⟨#[60]⟩, .string ⟨#[62]⟩, .string ⟨#[61]⟩, .string ⟨#[126]⟩, .string ⟨#[33]⟩, .string ⟨#[35]⟩, .string ⟨#[95]⟩, .string ⟨#[44]⟩, .string ⟨#[94]⟩, .string ⟨#[63]⟩, .string ⟨#[64]⟩] 9)) (.cells #[.string ⟨#[47]⟩, .string ⟨#[92]⟩] 9))
 rw [sz] at hv
 have ha := (blk_new ((w.alloc (.cells #[.slice (some ⟨w.heap.size + 1, 0, none⟩) 17 17, .slice (some ⟨w.heap.size + 1 + 1, 0, none⟩) 2 2, .slice none 0 0, .string ⟨#[]⟩, .string ⟨#[]⟩, .string ⟨#[123]⟩, .string ⟨#[125]⟩, .string ⟨#[120]⟩, .string ⟨#[121]⟩, .string ⟨#[45]⟩, .string ⟨#[34]⟩, .bool false, .bool true, .bool true] 24)).alloc (.cells #[.string ⟨#[43]⟩, .string ⟨#[45]⟩, .string ⟨#[42]⟩, .string ⟨#[37]⟩, .string ⟨#[38]⟩, .string ⟨#[124]⟩, .string ⟨#[60]⟩, .string ⟨#[62]⟩, .string ⟨#[61]⟩, .string ⟨#[126]⟩, .string ⟨#[33]⟩, .string ⟨#[35]⟩, .string ⟨#[95]⟩, .string ⟨#[44]⟩, .string ⟨#[94]⟩, .string ⟨#[63]⟩, .string ⟨#[64]⟩] 9)) (.cells #[.string ⟨#[47]⟩, .string ⟨#[92]⟩] 9))
 rw [sz, sz] at ha
 have q0 := blk_cell hr 0
 have q1 := blk_cell hr 1
 have q2 := blk_cell hr 2
 have q3 := blk_cell hr 3
 have q4 := blk_cell hr 4
 have q5 := blk_cell hr 5
 have q6 := blk_cell hr 6
 have q7 := blk_cell hr 7
 have q8 := blk_cell hr 8
 have q9 := blk_cell hr 9
 have q10 := blk_cell hr 10
 have q11 := blk_cell hr 11
 have q12 := blk_cell hr 12
 have q13 := blk_cell hr 13
 refine bodyPost_ret (v := .agg #[.slice (some ⟨w.heap.size + 1, 0, none⟩) 17 17, .slice (some ⟨w.heap.size + 1 + 1, 0, none⟩) 2 2, .slice none 0 0, .string ⟨#[]⟩, .string ⟨#[]⟩, .string ⟨#[123]⟩, .string ⟨#[125]⟩, .string ⟨#[120]⟩, .string ⟨#[121]⟩, .string ⟨#[45]⟩, .string ⟨#[34]⟩, .bool false, .bool true, .bool true]) (by simp [results, Try.results17, go_sem, q0, q1, q2, q3, q4, q5, q6, q7, q8, q9, q10, q11, q12, q13]) rfl ?_
 exact ⟨(((Below.refl _ w).alloc (Nat.le_refl _) _).alloc (by simp) _).alloc (by simp; omega) _, _, _, none, _, _, 0, fun _ _ _ _ => rfl, strs_kept (l := kayT.V) (by omega) hv, strs_kept (l := kayT.A) (by omega) ha, strs_kept_nil _ _ _⟩
end Go.Proofs.Ytollglblkbjgjaa
namespace Go.Proofs.Ytollglblkbjgjaa
open Go.RowKit

/-- a grammar is laid into a result's variable -/
def gramSet (w : World) (B : Nat) (a0 a1 a2 a3 a4 a5 a6 a7 a8 a9 a10 a11 a12 a13 : Value) : World := ((((((((((((((w.setCell ⟨B, 0, none⟩ a0).setCell ⟨B, 1, none⟩ a1).setCell ⟨B, 2, none⟩ a2).setCell ⟨B, 3, none⟩ a3).setCell ⟨B, 4, none⟩ a4).setCell ⟨B, 5, none⟩ a5).setCell ⟨B, 6, none⟩ a6).setCell ⟨B, 7, none⟩ a7).setCell ⟨B, 8, none⟩ a8).setCell ⟨B, 9, none⟩ a9).setCell ⟨B, 10, none⟩ a10).setCell ⟨B, 11, none⟩ a11).setCell ⟨B, 12, none⟩ a12).setCell ⟨B, 13, none⟩ a13)
theorem gram_blk {w : World} {B : Nat} {o0 o1 o2 o3 o4 o5 o6 o7 o8 o9 o10 o11 o12 o13 : Value} (h0 : w.heap[B]? = some (.cells #[o0, o1, o2, o3, o4, o5, o6, o7, o8, o9, o10, o11, o12, o13] 24 (0, 0))) (a0 a1 a2 a3 a4 a5 a6 a7 a8 a9 a10 a11 a12 a13 : Value) : (gramSet w B a0 a1 a2 a3 a4 a5 a6 a7 a8 a9 a10 a11 a12 a13).heap[B]? = some (.cells #[a0, a1, a2, a3, a4, a5, a6, a7, a8, a9, a10, a11, a12, a13] 24 (0, 0)) := by
 have := (blk_set (blk_set (blk_set (blk_set (blk_set (blk_set (blk_set (blk_set (blk_set (blk_set (blk_set (blk_set (blk_set (blk_set h0 0 a0) 1 a1) 2 a2) 3 a3) 4 a4) 5 a5) 6 a6) 7 a7) 8 a8) 9 a9) 10 a10) 11 a11) 12 a12) 13 a13)
 simpa [gramSet] using this
theorem gram_heap (w : World) (B b : Nat) (hb : b ≠ B) (a0 a1 a2 a3 a4 a5 a6 a7 a8 a9 a10 a11 a12 a13 : Value) : (gramSet w B a0 a1 a2 a3 a4 a5 a6 a7 a8 a9 a10 a11 a12 a13).heap[b]? = w.heap[b]? := by
 unfold gramSet
 rw [Below.heap_setCell _ _ _ b (by simpa using hb), Below.heap_setCell _ _ _ b (by simpa using hb), Below.heap_setCell _ _ _ b (by simpa using hb), Below.heap_setCell _ _ _ b (by simpa using hb), Below.heap_setCell _ _ _ b (by simpa using hb), Below.heap_setCell _ _ _ b (by simpa using hb), Below.heap_setCell _ _ _ b (by simpa using hb), Below.heap_setCell _ _ _ b (by simpa using hb), Below.heap_setCell _ _ _ b (by simpa using hb), Below.heap_setCell _ _ _ b (by simpa using hb), Below.heap_setCell _ _ _ b (by simpa using hb), Below.heap_setCell _ _ _ b (by simpa using hb), Below.heap_setCell _ _ _ b (by simpa using hb), Below.heap_setCell _ _ _ b (by simpa using hb)]
theorem gram_size (w : World) (B : Nat) (a0 a1 a2 a3 a4 a5 a6 a7 a8 a9 a10 a11 a12 a13 : Value) : (gramSet w B a0 a1 a2 a3 a4 a5 a6 a7 a8 a9 a10 a11 a12 a13).heap.size = w.heap.size := by
 simp [gramSet, World.setCell]
theorem below_gram {B g : Nat} {w w' : World} (h : Below B w w') (hg : B ≤ g) (a0 a1 a2 a3 a4 a5 a6 a7 a8 a9 a10 a11 a12 a13 : Value) : Below B w (gramSet w' g a0 a1 a2 a3 a4 a5 a6 a7 a8 a9 a10 a11 a12 a13) := (below_set (below_set (below_set (below_set (below_set (below_set (below_set (below_set (below_set (below_set (below_set (below_set (below_set (below_set h hg 0 a0) hg 1 a1) hg 2 a2) hg 3 a3) hg 4 a4) hg 5 a5) hg 6 a6) hg 7 a7) hg 8 a8) hg 9 a9) hg 10 a10) hg 11 a11) hg 12 a12) hg 13 a13)
/-- a grammar and a fault are laid into the results' variables -/
def lawSet (w : World) (B C : Nat) (a0 a1 a2 a3 a4 a5 a6 a7 a8 a9 a10 a11 a12 a13 b0 b1 b2 : Value) : World := (((gramSet w B a0 a1 a2 a3 a4 a5 a6 a7 a8 a9 a10 a11 a12 a13).setCell ⟨C, 0, none⟩ b0).setCell ⟨C, 1, none⟩ b1).setCell ⟨C, 2, none⟩ b2
theorem law_heap (w : World) (B C b : Nat) (hb : b ≠ B) (hc : b ≠ C) (a0 a1 a2 a3 a4 a5 a6 a7 a8 a9 a10 a11 a12 a13 b0 b1 b2 : Value) : (lawSet w B C a0 a1 a2 a3 a4 a5 a6 a7 a8 a9 a10 a11 a12 a13 b0 b1 b2).heap[b]? = w.heap[b]? := by
 unfold lawSet
 rw [Below.heap_setCell _ _ _ b (by simpa using hc), Below.heap_setCell _ _ _ b (by simpa using hc), Below.heap_setCell _ _ _ b (by simpa using hc), gram_heap w B b hb]
theorem law_size (w : World) (B C : Nat) (a0 a1 a2 a3 a4 a5 a6 a7 a8 a9 a10 a11 a12 a13 b0 b1 b2 : Value) : (lawSet w B C a0 a1 a2 a3 a4 a5 a6 a7 a8 a9 a10 a11 a12 a13 b0 b1 b2).heap.size = w.heap.size := by
 simp [lawSet, World.setCell, gramSet]
theorem law_res {w : World} {B C : Nat} {o0 o1 o2 o3 o4 o5 o6 o7 o8 o9 o10 o11 o12 o13 p0 p1 p2 : Value} (h0 : w.heap[B]? = some (.cells #[o0, o1, o2, o3, o4, o5, o6, o7, o8, o9, o10, o11, o12, o13] 24 (0, 0))) (h1 : w.heap[C]? = some (.cells #[p0, p1, p2] 28 (0, 0))) (hne : B ≠ C) (a0 a1 a2 a3 a4 a5 a6 a7 a8 a9 a10 a11 a12 a13 b0 b1 b2 : Value) :
  (lawSet w B C a0 a1 a2 a3 a4 a5 a6 a7 a8 a9 a10 a11 a12 a13 b0 b1 b2).heap[B]? = some (.cells #[a0, a1, a2, a3, a4, a5, a6, a7, a8, a9, a10, a11, a12, a13] 24 (0, 0)) ∧ (lawSet w B C a0 a1 a2 a3 a4 a5 a6 a7 a8 a9 a10 a11 a12 a13 b0 b1 b2).heap[C]? = some (.cells #[b0, b1, b2] 28 (0, 0)) := by
 constructor
 ·unfold lawSet
  exact blk_far (p := ⟨C, 2, none⟩) (blk_far (p := ⟨C, 1, none⟩) (blk_far (p := ⟨C, 0, none⟩) (gram_blk h0 a0 a1 a2 a3 a4 a5 a6 a7 a8 a9 a10 a11 a12 a13) (by simpa using hne) b0) (by simpa using hne) b1) (by simpa using hne) b2
 ·unfold lawSet
  exact three_blk ((gram_heap w B C (Ne.symm hne) a0 a1 a2 a3 a4 a5 a6 a7 a8 a9 a10 a11 a12 a13).trans h1) b0 b1 b2
theorem below_law {B g h : Nat} {w w' : World} (hb : Below B w w') (hg : B ≤ g) (hh : B ≤ h) (a0 a1 a2 a3 a4 a5 a6 a7 a8 a9 a10 a11 a12 a13 b0 b1 b2 : Value) : Below B w (lawSet w' g h a0 a1 a2 a3 a4 a5 a6 a7 a8 a9 a10 a11 a12 a13 b0 b1 b2) :=
 below_set (below_set (below_set (below_gram hb hg a0 a1 a2 a3 a4 a5 a6 a7 a8 a9 a10 a11 a12 a13) hh 0 b0) hh 1 b1) hh 2 b2
def TabFrom (T : Tab) (B : World) (e : Ending) (w' : World) : Prop := Below B.heap.size B w' ∧ ∃ (vA aA bA : Option Addr) (vc ac bc : Nat), (∀ lA lc L en, e = .returned (tabE T vA vc aA ac bA bc lA lc L en).gramV) ∧ StrsKept B.heap.size w' vA T.V ∧ StrsKept B.heap.size w' aA T.A ∧ StrsKept B.heap.size w' bA T.B
theorem tab_from {f : Nat} {T : Tab} (h : ∀ W, Calls Try.prog f #[] W (TabTo T W)) (B W : World) (hb : Below B.heap.size B W) (hs : W.heap.size = B.heap.size) : Calls Try.prog f #[] W (TabFrom T B) := by
 refine (h W).mono ?_
 rintro e w' ⟨h1, h2⟩
 refine ⟨below_then hb hb.size h1, ?_⟩
 rw [hs] at h2
 exact h2
/-- a text's words in a dialect, and its grammar -/
def LawTo (s : ByteArray) (w : World) (e : Ending) (w' : World) : Prop := Below w.heap.size w w' ∧
 ∃ (T : Tab) (vA : Option Addr) (vc : Nat) (aA : Option Addr) (ac : Nat) (bA : Option Addr) (bc : Nat) (lA : Option Addr) (lc : Nat) (L : List Tok) (er at_ : Int), TabOK T ∧ e = .returned (.tuple #[(tabE T vA vc aA ac bA bc none 0 [] 0).gramV, .slice lA L.length lc, faultV er at_]) ∧
  StrsAt w' vA T.V ∧ StrsAt w' aA T.A ∧ StrsAt w' bA T.B ∧ ToksGood s w' lA L ∧ L.length ≤ lc ∧ lc ≤ 9223372036854775807
theorem law_fin {s : ByteArray} {w w1 W3 w4 : World} {T : Tab} {vA aA bA lA : Option Addr} {vc ac bc lc : Nat} {L : List Tok} {er at_ : Int} (hT : TabOK T) (hb3 : Below w.heap.size w W3) (hbW : Below w1.heap.size w1 W3) (h01 : w.heap.size + 2 ≤ w1.heap.size) (hL : ToksKept s (w.heap.size + 2) w1 lA L) (hc1 : L.length ≤ lc) (hc2 : lc ≤ 9223372036854775807) (hb4 : Below W3.heap.size W3 w4) (hv : StrsKept W3.heap.size w4 vA T.V) (ha : StrsKept W3.heap.size w4 aA T.A) (hb : StrsKept W3.heap.size w4 bA T.B) :
  LawTo s w (.returned (.tuple #[(tabE T vA vc aA ac bA bc none 0 [] 0).gramV, .slice lA L.length lc, faultV er at_])) (lawSet w4 w.heap.size (w.heap.size + 1) (.slice vA T.V.length vc) (.slice aA T.A.length ac) (.slice bA T.B.length bc) (.string T.s1) (.string T.s2) (.string T.s3) (.string T.s4) (.string T.s5) (.string T.s6) (.string T.s7) (.string T.s8) (.bool T.b1) (.bool T.b2) (.bool T.b3) (.int .i64 er) (.int .i64 at_) (.int .i64 0)) := by
 have h13 := hbW.size
 have h34 := hb4.size
 have hag : ∀ b, W3.heap.size ≤ b → b < w4.heap.size → (lawSet w4 w.heap.size (w.heap.size + 1) (.slice vA T.V.length vc) (.slice aA T.A.length ac) (.slice bA T.B.length bc) (.string T.s1) (.string T.s2) (.string T.s3) (.string T.s4) (.string T.s5) (.string T.s6) (.string T.s7) (.string T.s8) (.bool T.b1) (.bool T.b2) (.bool T.b3) (.int .i64 er) (.int .i64 at_) (.int .i64 0)).heap[b]? = w4.heap[b]? := fun b hb _ => law_heap w4 w.heap.size (w.heap.size + 1) b (by omega) (by omega) (.slice vA T.V.length vc) (.slice aA T.A.length ac) (.slice bA T.B.length bc) (.string T.s1) (.string T.s2) (.string T.s3) (.string T.s4) (.string T.s5) (.string T.s6) (.string T.s7) (.string T.s8) (.bool T.b1) (.bool T.b2) (.bool T.b3) (.int .i64 er) (.int .i64 at_) (.int .i64 0)
 have hsz : w4.heap.size ≤ (lawSet w4 w.heap.size (w.heap.size + 1) (.slice vA T.V.length vc) (.slice aA T.A.length ac) (.slice bA T.B.length bc) (.string T.s1) (.string T.s2) (.string T.s3) (.string T.s4) (.string T.s5) (.string T.s6) (.string T.s7) (.string T.s8) (.bool T.b1) (.bool T.b2) (.bool T.b3) (.int .i64 er) (.int .i64 at_) (.int .i64 0)).heap.size := Nat.le_of_eq (law_size w4 w.heap.size (w.heap.size + 1) (.slice vA T.V.length vc) (.slice aA T.A.length ac) (.slice bA T.B.length bc) (.string T.s1) (.string T.s2) (.string T.s3) (.string T.s4) (.string T.s5) (.string T.s6) (.string T.s7) (.string T.s8) (.bool T.b1) (.bool T.b2) (.bool T.b3) (.int .i64 er) (.int .i64 at_) (.int .i64 0)).symm
 have htg : ToksGood s (lawSet w4 w.heap.size (w.heap.size + 1) (.slice vA T.V.length vc) (.slice aA T.A.length ac) (.slice bA T.B.length bc) (.string T.s1) (.string T.s2) (.string T.s3) (.string T.s4) (.string T.s5) (.string T.s6) (.string T.s7) (.string T.s8) (.bool T.b1) (.bool T.b2) (.bool T.b3) (.int .i64 er) (.int .i64 at_) (.int .i64 0)) lA L := hL _ (by omega) (fun b hb hlt => by
  rw [law_heap w4 w.heap.size (w.heap.size + 1) b (by omega) (by omega) (.slice vA T.V.length vc) (.slice aA T.A.length ac) (.slice bA T.B.length bc) (.string T.s1) (.string T.s2) (.string T.s3) (.string T.s4) (.string T.s5) (.string T.s6) (.string T.s7) (.string T.s8) (.bool T.b1) (.bool T.b2) (.bool T.b3) (.int .i64 er) (.int .i64 at_) (.int .i64 0), hb4.block b (by omega), hbW.block b hlt])
 exact ⟨below_law (below_then hb3 hb3.size hb4) (Nat.le_refl _) (by omega) (.slice vA T.V.length vc) (.slice aA T.A.length ac) (.slice bA T.B.length bc) (.string T.s1) (.string T.s2) (.string T.s3) (.string T.s4) (.string T.s5) (.string T.s6) (.string T.s7) (.string T.s8) (.bool T.b1) (.bool T.b2) (.bool T.b3) (.int .i64 er) (.int .i64 at_) (.int .i64 0), T, vA, vc, aA, ac, bA, bc, lA, lc, L, er, at_, hT, rfl, hv _ hsz hag, ha _ hsz hag, hb _ hsz hag, htg, hc1, hc2⟩
set_option maxRecDepth 100000 in
set_option maxHeartbeats 8000000 in
theorem law6_m2 (d : Int) (h : d.tmod 3 = -2) (s : ByteArray) (w : World) : Calls Try.prog 6 #[.int .i64 d, .string s] w (LawTo s w) := by
 have HB := Lib.hid (((Below.refl _ w).alloc (Nat.le_refl _) (.cells #[.slice none 0 0, .slice none 0 0, .slice none 0 0, .string ⟨#[]⟩, .string ⟨#[]⟩, .string ⟨#[]⟩, .string ⟨#[]⟩, .string ⟨#[]⟩, .string ⟨#[]⟩, .string ⟨#[]⟩, .string ⟨#[]⟩, .bool false, .bool false, .bool false] 24)).alloc (by simp) (.cells #[.int .i64 0, .int .i64 0, .int .i64 0] 28))
 have HRES := Lib.hid (blk_alloc (blk_new w (.cells #[.slice none 0 0, .slice none 0 0, .slice none 0 0, .string ⟨#[]⟩, .string ⟨#[]⟩, .string ⟨#[]⟩, .string ⟨#[]⟩, .string ⟨#[]⟩, .string ⟨#[]⟩, .string ⟨#[]⟩, .string ⟨#[]⟩, .bool false, .bool false, .bool false] 24)) (.cells #[.int .i64 0, .int .i64 0, .int .i64 0] 28))
 have HSZ := Lib.hid (show ((w.alloc (.cells #[.slice none 0 0, .slice none 0 0, .slice none 0 0, .string ⟨#[]⟩, .string ⟨#[]⟩, .string ⟨#[]⟩, .string ⟨#[]⟩, .string ⟨#[]⟩, .string ⟨#[]⟩, .string ⟨#[]⟩, .string ⟨#[]⟩, .bool false, .bool false, .bool false] 24)).alloc (.cells #[.int .i64 0, .int .i64 0, .int .i64 0] 28)).heap.size = w.heap.size + 2 by simp)
 have hfb := blk_new (w.alloc (.cells #[.slice none 0 0, .slice none 0 0, .slice none 0 0, .string ⟨#[]⟩, .string ⟨#[]⟩, .string ⟨#[]⟩, .string ⟨#[]⟩, .string ⟨#[]⟩, .string ⟨#[]⟩, .string ⟨#[]⟩, .string ⟨#[]⟩, .bool false, .bool false, .bool false] 24)) (.cells #[.int .i64 0, .int .i64 0, .int .i64 0] 28)
 rw [show (w.alloc (.cells #[.slice none 0 0, .slice none 0 0, .slice none 0 0, .string ⟨#[]⟩, .string ⟨#[]⟩, .string ⟨#[]⟩, .string ⟨#[]⟩, .string ⟨#[]⟩, .string ⟨#[]⟩, .string ⟨#[]⟩, .string ⟨#[]⟩, .bool false, .bool false, .bool false] 24)).heap.size = w.heap.size + 1 by simp] at hfb
 have HFB := Lib.hid hfb
 clear hfb
 go_enter Try.func6, Try.ntmps6
 go_wp2_with fail
 refine (lex14_any s _).mono ?_
 rintro e w1 ⟨hb1, lA, lc, L, er, at_, rfl, hg, hc1, hc2, -⟩
 have HB1 := Lib.hid (below_then HB.out HB.out.size hb1)
 have HRES1 := Lib.hid (blk_below HRES.out hb1 (blk_lt HRES.out))
 have HFB1 := Lib.hid (blk_below HFB.out hb1 (blk_lt HFB.out))
 rw [HSZ.out] at hg
 have HL := Lib.hid hg
 clear hb1 hg HB HRES HFB
 obtain ⟨T, hT⟩ : ∃ T, jayT = T := ⟨_, rfl⟩
 have HTAB := Lib.hid (show ∀ W, Calls Try.prog 15 #[] W (TabTo T W) by rw [← hT]; exact tab15_any)
 have HTOK := Lib.hid (show TabOK T by rw [← hT]; exact jayT_ok)
 clear hT
 unfold faultV
 go_upto_region 7 with fail
 obtain ⟨W3, hW3⟩ : ∃ W3, w1.alloc (.cells #[.int .i64 er, .int .i64 at_, .int .i64 0] 28) = W3 := ⟨_, rfl⟩
 have hbW : Below w1.heap.size w1 W3 := by rw [← hW3]; exact (Below.refl _ w1).alloc (Nat.le_refl _) _
 have HF3 := Lib.hid (show W3.heap[w1.heap.size]? = some (.cells #[.int .i64 er, .int .i64 at_, .int .i64 0] 28 (0, 0)) by rw [← hW3]; exact blk_new w1 _)
 rw [hW3]
 have HB3 := Lib.hid (below_then HB1.out HB1.out.size hbW)
 have HRES3 := Lib.hid (blk_below HRES1.out hbW (blk_lt HRES1.out))
 have HFB3 := Lib.hid (blk_below HFB1.out hbW (blk_lt HFB1.out))
 have HBW := Lib.hid hbW
 have h13 := hbW.size
 have hres1 := blk_lt HRES1.out
 have hfb1 := blk_lt HFB1.out
 have h01 := HB1.out.size
 clear hbW hW3 HB1 HRES1 HFB1
 have f0 := blk_cell HF3.out 0
 have ff0 := blk_frozen HF3.out 0
 have f1 := blk_cell HF3.out 1
 have ff1 := blk_frozen HF3.out 1
 have f2 := blk_cell HF3.out 2
 have ff2 := blk_frozen HF3.out 2
 go_region_with (go_at_call 15; refine (tab_from HTAB.out W3 _ ?_ ?_).mono ?_; (first | (exact Below.refl _ _) | (exact below_dr (Below.refl _ _))); rfl; rintro e w4 ⟨hb4, vA, aA, bA, vc, ac, bc, he, hv, ha, hb⟩; obtain rfl := he none 0 [] 0; have HRES4 := Lib.hid (blk_below HRES3.out hb4 (blk_lt HRES3.out)); have HFB4 := Lib.hid (blk_below HFB3.out hb4 (blk_lt HFB3.out)); have HF4 := Lib.hid (blk_below HF3.out hb4 (blk_lt HF3.out)); have hs4 := hb4.size; have HB4 := Lib.hid hb4; have HV4 := Lib.hid hv; have HA4 := Lib.hid ha; have HC4 := Lib.hid hb; clear hb4 hv ha hb he; have r0 := blk_cell HRES4.out 0; have rf0 := blk_frozen HRES4.out 0; have r1 := blk_cell HRES4.out 1; have rf1 := blk_frozen HRES4.out 1; have r2 := blk_cell HRES4.out 2; have rf2 := blk_frozen HRES4.out 2; have r3 := blk_cell HRES4.out 3; have rf3 := blk_frozen HRES4.out 3; have r4 := blk_cell HRES4.out 4; have rf4 := blk_frozen HRES4.out 4; have r5 := blk_cell HRES4.out 5; have rf5 := blk_frozen HRES4.out 5; have r6 := blk_cell HRES4.out 6; have rf6 := blk_frozen HRES4.out 6; have r7 := blk_cell HRES4.out 7; have rf7 := blk_frozen HRES4.out 7; have r8 := blk_cell HRES4.out 8; have rf8 := blk_frozen HRES4.out 8; have r9 := blk_cell HRES4.out 9; have rf9 := blk_frozen HRES4.out 9; have r10 := blk_cell HRES4.out 10; have rf10 := blk_frozen HRES4.out 10; have r11 := blk_cell HRES4.out 11; have rf11 := blk_frozen HRES4.out 11; have r12 := blk_cell HRES4.out 12; have rf12 := blk_frozen HRES4.out 12; have r13 := blk_cell HRES4.out 13; have rf13 := blk_frozen HRES4.out 13; have g0 := blk_cell HFB4.out 0; have gf0 := blk_frozen HFB4.out 0; have g1 := blk_cell HFB4.out 1; have gf1 := blk_frozen HFB4.out 1; have g2 := blk_cell HFB4.out 2; have gf2 := blk_frozen HFB4.out 2; have k0 := blk_cell HF4.out 0; have k1 := blk_cell HF4.out 1; have k2 := blk_cell HF4.out 2; simp only [Env.gramV, tabE])
 all_goals
  go_wp2
  obtain ⟨hr, hf⟩ := law_res HRES4.out HFB4.out (by omega) (.slice vA T.V.length vc) (.slice aA T.A.length ac) (.slice bA T.B.length bc) (.string T.s1) (.string T.s2) (.string T.s3) (.string T.s4) (.string T.s5) (.string T.s6) (.string T.s7) (.string T.s8) (.bool T.b1) (.bool T.b2) (.bool T.b3) (.int .i64 er) (.int .i64 at_) (.int .i64 0)
  unfold lawSet gramSet at hr hf
  have q0 := blk_cell hr 0
  have q1 := blk_cell hr 1
  have q2 := blk_cell hr 2
  have q3 := blk_cell hr 3
  have q4 := blk_cell hr 4
  have q5 := blk_cell hr 5
  have q6 := blk_cell hr 6
  have q7 := blk_cell hr 7
  have q8 := blk_cell hr 8
  have q9 := blk_cell hr 9
  have q10 := blk_cell hr 10
  have q11 := blk_cell hr 11
  have q12 := blk_cell hr 12
  have q13 := blk_cell hr 13
  have p0 := blk_cell hf 0
  have p1 := blk_cell hf 1
  have p2 := blk_cell hf 2
  refine bodyPost_ret (v := .tuple #[(tabE T vA vc aA ac bA bc none 0 [] 0).gramV, .slice lA L.length lc, faultV er at_]) (by simp [results, Try.results6, go_sem, faultV, Env.gramV, tabE, q0, q1, q2, q3, q4, q5, q6, q7, q8, q9, q10, q11, q12, q13, p0, p1, p2]) rfl ?_
  exact law_fin HTOK.out HB3.out HBW.out (by omega) HL.out hc1 hc2 HB4.out HV4.out HA4.out HC4.out
set_option maxRecDepth 100000 in
set_option maxHeartbeats 8000000 in
theorem law6_m1 (d : Int) (h : d.tmod 3 = -1) (s : ByteArray) (w : World) : Calls Try.prog 6 #[.int .i64 d, .string s] w (LawTo s w) := by
 have HB := Lib.hid (((Below.refl _ w).alloc (Nat.le_refl _) (.cells #[.slice none 0 0, .slice none 0 0, .slice none 0 0, .string ⟨#[]⟩, .string ⟨#[]⟩, .string ⟨#[]⟩, .string ⟨#[]⟩, .string ⟨#[]⟩, .string ⟨#[]⟩, .string ⟨#[]⟩, .string ⟨#[]⟩, .bool false, .bool false, .bool false] 24)).alloc (by simp) (.cells #[.int .i64 0, .int .i64 0, .int .i64 0] 28))
 have HRES := Lib.hid (blk_alloc (blk_new w (.cells #[.slice none 0 0, .slice none 0 0, .slice none 0 0, .string ⟨#[]⟩, .string ⟨#[]⟩, .string ⟨#[]⟩, .string ⟨#[]⟩, .string ⟨#[]⟩, .string ⟨#[]⟩, .string ⟨#[]⟩, .string ⟨#[]⟩, .bool false, .bool false, .bool false] 24)) (.cells #[.int .i64 0, .int .i64 0, .int .i64 0] 28))
 have HSZ := Lib.hid (show ((w.alloc (.cells #[.slice none 0 0, .slice none 0 0, .slice none 0 0, .string ⟨#[]⟩, .string ⟨#[]⟩, .string ⟨#[]⟩, .string ⟨#[]⟩, .string ⟨#[]⟩, .string ⟨#[]⟩, .string ⟨#[]⟩, .string ⟨#[]⟩, .bool false, .bool false, .bool false] 24)).alloc (.cells #[.int .i64 0, .int .i64 0, .int .i64 0] 28)).heap.size = w.heap.size + 2 by simp)
 have hfb := blk_new (w.alloc (.cells #[.slice none 0 0, .slice none 0 0, .slice none 0 0, .string ⟨#[]⟩, .string ⟨#[]⟩, .string ⟨#[]⟩, .string ⟨#[]⟩, .string ⟨#[]⟩, .string ⟨#[]⟩, .string ⟨#[]⟩, .string ⟨#[]⟩, .bool false, .bool false, .bool false] 24)) (.cells #[.int .i64 0, .int .i64 0, .int .i64 0] 28)
 rw [show (w.alloc (.cells #[.slice none 0 0, .slice none 0 0, .slice none 0 0, .string ⟨#[]⟩, .string ⟨#[]⟩, .string ⟨#[]⟩, .string ⟨#[]⟩, .string ⟨#[]⟩, .string ⟨#[]⟩, .string ⟨#[]⟩, .string ⟨#[]⟩, .bool false, .bool false, .bool false] 24)).heap.size = w.heap.size + 1 by simp] at hfb
 have HFB := Lib.hid hfb
 clear hfb
 go_enter Try.func6, Try.ntmps6
 go_wp2_with fail
 refine (lex16_any s _).mono ?_
 rintro e w1 ⟨hb1, lA, lc, L, er, at_, rfl, hg, hc1, hc2, -⟩
 have HB1 := Lib.hid (below_then HB.out HB.out.size hb1)
 have HRES1 := Lib.hid (blk_below HRES.out hb1 (blk_lt HRES.out))
 have HFB1 := Lib.hid (blk_below HFB.out hb1 (blk_lt HFB.out))
 rw [HSZ.out] at hg
 have HL := Lib.hid hg
 clear hb1 hg HB HRES HFB
 obtain ⟨T, hT⟩ : ∃ T, kayT = T := ⟨_, rfl⟩
 have HTAB := Lib.hid (show ∀ W, Calls Try.prog 17 #[] W (TabTo T W) by rw [← hT]; exact tab17_any)
 have HTOK := Lib.hid (show TabOK T by rw [← hT]; exact kayT_ok)
 clear hT
 unfold faultV
 go_upto_region 9 with fail
 obtain ⟨W3, hW3⟩ : ∃ W3, w1.alloc (.cells #[.int .i64 er, .int .i64 at_, .int .i64 0] 28) = W3 := ⟨_, rfl⟩
 have hbW : Below w1.heap.size w1 W3 := by rw [← hW3]; exact (Below.refl _ w1).alloc (Nat.le_refl _) _
 have HF3 := Lib.hid (show W3.heap[w1.heap.size]? = some (.cells #[.int .i64 er, .int .i64 at_, .int .i64 0] 28 (0, 0)) by rw [← hW3]; exact blk_new w1 _)
 rw [hW3]
 have HB3 := Lib.hid (below_then HB1.out HB1.out.size hbW)
 have HRES3 := Lib.hid (blk_below HRES1.out hbW (blk_lt HRES1.out))
 have HFB3 := Lib.hid (blk_below HFB1.out hbW (blk_lt HFB1.out))
 have HBW := Lib.hid hbW
 have h13 := hbW.size
 have hres1 := blk_lt HRES1.out
 have hfb1 := blk_lt HFB1.out
 have h01 := HB1.out.size
 clear hbW hW3 HB1 HRES1 HFB1
 have f0 := blk_cell HF3.out 0
 have ff0 := blk_frozen HF3.out 0
 have f1 := blk_cell HF3.out 1
 have ff1 := blk_frozen HF3.out 1
 have f2 := blk_cell HF3.out 2
 have ff2 := blk_frozen HF3.out 2
 go_region_with (go_at_call 17; refine (tab_from HTAB.out W3 _ ?_ ?_).mono ?_; (first | (exact Below.refl _ _) | (exact below_dr (Below.refl _ _))); rfl; rintro e w4 ⟨hb4, vA, aA, bA, vc, ac, bc, he, hv, ha, hb⟩; obtain rfl := he none 0 [] 0; have HRES4 := Lib.hid (blk_below HRES3.out hb4 (blk_lt HRES3.out)); have HFB4 := Lib.hid (blk_below HFB3.out hb4 (blk_lt HFB3.out)); have HF4 := Lib.hid (blk_below HF3.out hb4 (blk_lt HF3.out)); have hs4 := hb4.size; have HB4 := Lib.hid hb4; have HV4 := Lib.hid hv; have HA4 := Lib.hid ha; have HC4 := Lib.hid hb; clear hb4 hv ha hb he; have r0 := blk_cell HRES4.out 0; have rf0 := blk_frozen HRES4.out 0; have r1 := blk_cell HRES4.out 1; have rf1 := blk_frozen HRES4.out 1; have r2 := blk_cell HRES4.out 2; have rf2 := blk_frozen HRES4.out 2; have r3 := blk_cell HRES4.out 3; have rf3 := blk_frozen HRES4.out 3; have r4 := blk_cell HRES4.out 4; have rf4 := blk_frozen HRES4.out 4; have r5 := blk_cell HRES4.out 5; have rf5 := blk_frozen HRES4.out 5; have r6 := blk_cell HRES4.out 6; have rf6 := blk_frozen HRES4.out 6; have r7 := blk_cell HRES4.out 7; have rf7 := blk_frozen HRES4.out 7; have r8 := blk_cell HRES4.out 8; have rf8 := blk_frozen HRES4.out 8; have r9 := blk_cell HRES4.out 9; have rf9 := blk_frozen HRES4.out 9; have r10 := blk_cell HRES4.out 10; have rf10 := blk_frozen HRES4.out 10; have r11 := blk_cell HRES4.out 11; have rf11 := blk_frozen HRES4.out 11; have r12 := blk_cell HRES4.out 12; have rf12 := blk_frozen HRES4.out 12; have r13 := blk_cell HRES4.out 13; have rf13 := blk_frozen HRES4.out 13; have g0 := blk_cell HFB4.out 0; have gf0 := blk_frozen HFB4.out 0; have g1 := blk_cell HFB4.out 1; have gf1 := blk_frozen HFB4.out 1; have g2 := blk_cell HFB4.out 2; have gf2 := blk_frozen HFB4.out 2; have k0 := blk_cell HF4.out 0; have k1 := blk_cell HF4.out 1; have k2 := blk_cell HF4.out 2; simp only [Env.gramV, tabE])
 all_goals
  go_wp2
  obtain ⟨hr, hf⟩ := law_res HRES4.out HFB4.out (by omega) (.slice vA T.V.length vc) (.slice aA T.A.length ac) (.slice bA T.B.length bc) (.string T.s1) (.string T.s2) (.string T.s3) (.string T.s4) (.string T.s5) (.string T.s6) (.string T.s7) (.string T.s8) (.bool T.b1) (.bool T.b2) (.bool T.b3) (.int .i64 er) (.int .i64 at_) (.int .i64 0)
  unfold lawSet gramSet at hr hf
  have q0 := blk_cell hr 0
  have q1 := blk_cell hr 1
  have q2 := blk_cell hr 2
  have q3 := blk_cell hr 3
  have q4 := blk_cell hr 4
  have q5 := blk_cell hr 5
  have q6 := blk_cell hr 6
  have q7 := blk_cell hr 7
  have q8 := blk_cell hr 8
  have q9 := blk_cell hr 9
  have q10 := blk_cell hr 10
  have q11 := blk_cell hr 11
  have q12 := blk_cell hr 12
  have q13 := blk_cell hr 13
  have p0 := blk_cell hf 0
  have p1 := blk_cell hf 1
  have p2 := blk_cell hf 2
  refine bodyPost_ret (v := .tuple #[(tabE T vA vc aA ac bA bc none 0 [] 0).gramV, .slice lA L.length lc, faultV er at_]) (by simp [results, Try.results6, go_sem, faultV, Env.gramV, tabE, q0, q1, q2, q3, q4, q5, q6, q7, q8, q9, q10, q11, q12, q13, p0, p1, p2]) rfl ?_
  exact law_fin HTOK.out HB3.out HBW.out (by omega) HL.out hc1 hc2 HB4.out HV4.out HA4.out HC4.out
set_option maxRecDepth 100000 in
set_option maxHeartbeats 8000000 in
theorem law6_0 (d : Int) (h : d.tmod 3 = 0) (s : ByteArray) (w : World) : Calls Try.prog 6 #[.int .i64 d, .string s] w (LawTo s w) := by
 have HB := Lib.hid (((Below.refl _ w).alloc (Nat.le_refl _) (.cells #[.slice none 0 0, .slice none 0 0, .slice none 0 0, .string ⟨#[]⟩, .string ⟨#[]⟩, .string ⟨#[]⟩, .string ⟨#[]⟩, .string ⟨#[]⟩, .string ⟨#[]⟩, .string ⟨#[]⟩, .string ⟨#[]⟩, .bool false, .bool false, .bool false] 24)).alloc (by simp) (.cells #[.int .i64 0, .int .i64 0, .int .i64 0] 28))
 have HRES := Lib.hid (blk_alloc (blk_new w (.cells #[.slice none 0 0, .slice none 0 0, .slice none 0 0, .string ⟨#[]⟩, .string ⟨#[]⟩, .string ⟨#[]⟩, .string ⟨#[]⟩, .string ⟨#[]⟩, .string ⟨#[]⟩, .string ⟨#[]⟩, .string ⟨#[]⟩, .bool false, .bool false, .bool false] 24)) (.cells #[.int .i64 0, .int .i64 0, .int .i64 0] 28))
 have HSZ := Lib.hid (show ((w.alloc (.cells #[.slice none 0 0, .slice none 0 0, .slice none 0 0, .string ⟨#[]⟩, .string ⟨#[]⟩, .string ⟨#[]⟩, .string ⟨#[]⟩, .string ⟨#[]⟩, .string ⟨#[]⟩, .string ⟨#[]⟩, .string ⟨#[]⟩, .bool false, .bool false, .bool false] 24)).alloc (.cells #[.int .i64 0, .int .i64 0, .int .i64 0] 28)).heap.size = w.heap.size + 2 by simp)
 have hfb := blk_new (w.alloc (.cells #[.slice none 0 0, .slice none 0 0, .slice none 0 0, .string ⟨#[]⟩, .string ⟨#[]⟩, .string ⟨#[]⟩, .string ⟨#[]⟩, .string ⟨#[]⟩, .string ⟨#[]⟩, .string ⟨#[]⟩, .string ⟨#[]⟩, .bool false, .bool false, .bool false] 24)) (.cells #[.int .i64 0, .int .i64 0, .int .i64 0] 28)
 rw [show (w.alloc (.cells #[.slice none 0 0, .slice none 0 0, .slice none 0 0, .string ⟨#[]⟩, .string ⟨#[]⟩, .string ⟨#[]⟩, .string ⟨#[]⟩, .string ⟨#[]⟩, .string ⟨#[]⟩, .string ⟨#[]⟩, .string ⟨#[]⟩, .bool false, .bool false, .bool false] 24)).heap.size = w.heap.size + 1 by simp] at hfb
 have HFB := Lib.hid hfb
 clear hfb
 go_enter Try.func6, Try.ntmps6
 go_wp2_with fail
 refine (lex12_any s _).mono ?_
 rintro e w1 ⟨hb1, lA, lc, L, er, at_, rfl, hg, hc1, hc2, -⟩
 have HB1 := Lib.hid (below_then HB.out HB.out.size hb1)
 have HRES1 := Lib.hid (blk_below HRES.out hb1 (blk_lt HRES.out))
 have HFB1 := Lib.hid (blk_below HFB.out hb1 (blk_lt HFB.out))
 rw [HSZ.out] at hg
 have HL := Lib.hid hg
 clear hb1 hg HB HRES HFB
 obtain ⟨T, hT⟩ : ∃ T, aplT = T := ⟨_, rfl⟩
 have HTAB := Lib.hid (show ∀ W, Calls Try.prog 13 #[] W (TabTo T W) by rw [← hT]; exact tab13_any)
 have HTOK := Lib.hid (show TabOK T by rw [← hT]; exact aplT_ok)
 clear hT
 unfold faultV
 go_upto_region 4 with fail
 obtain ⟨W3, hW3⟩ : ∃ W3, w1.alloc (.cells #[.int .i64 er, .int .i64 at_, .int .i64 0] 28) = W3 := ⟨_, rfl⟩
 have hbW : Below w1.heap.size w1 W3 := by rw [← hW3]; exact (Below.refl _ w1).alloc (Nat.le_refl _) _
 have HF3 := Lib.hid (show W3.heap[w1.heap.size]? = some (.cells #[.int .i64 er, .int .i64 at_, .int .i64 0] 28 (0, 0)) by rw [← hW3]; exact blk_new w1 _)
 rw [hW3]
 have HB3 := Lib.hid (below_then HB1.out HB1.out.size hbW)
 have HRES3 := Lib.hid (blk_below HRES1.out hbW (blk_lt HRES1.out))
 have HFB3 := Lib.hid (blk_below HFB1.out hbW (blk_lt HFB1.out))
 have HBW := Lib.hid hbW
 have h13 := hbW.size
 have hres1 := blk_lt HRES1.out
 have hfb1 := blk_lt HFB1.out
 have h01 := HB1.out.size
 clear hbW hW3 HB1 HRES1 HFB1
 have f0 := blk_cell HF3.out 0
 have ff0 := blk_frozen HF3.out 0
 have f1 := blk_cell HF3.out 1
 have ff1 := blk_frozen HF3.out 1
 have f2 := blk_cell HF3.out 2
 have ff2 := blk_frozen HF3.out 2
 go_region_with (go_at_call 13; refine (tab_from HTAB.out W3 _ ?_ ?_).mono ?_; (first | (exact Below.refl _ _) | (exact below_dr (Below.refl _ _))); rfl; rintro e w4 ⟨hb4, vA, aA, bA, vc, ac, bc, he, hv, ha, hb⟩; obtain rfl := he none 0 [] 0; have HRES4 := Lib.hid (blk_below HRES3.out hb4 (blk_lt HRES3.out)); have HFB4 := Lib.hid (blk_below HFB3.out hb4 (blk_lt HFB3.out)); have HF4 := Lib.hid (blk_below HF3.out hb4 (blk_lt HF3.out)); have hs4 := hb4.size; have HB4 := Lib.hid hb4; have HV4 := Lib.hid hv; have HA4 := Lib.hid ha; have HC4 := Lib.hid hb; clear hb4 hv ha hb he; have r0 := blk_cell HRES4.out 0; have rf0 := blk_frozen HRES4.out 0; have r1 := blk_cell HRES4.out 1; have rf1 := blk_frozen HRES4.out 1; have r2 := blk_cell HRES4.out 2; have rf2 := blk_frozen HRES4.out 2; have r3 := blk_cell HRES4.out 3; have rf3 := blk_frozen HRES4.out 3; have r4 := blk_cell HRES4.out 4; have rf4 := blk_frozen HRES4.out 4; have r5 := blk_cell HRES4.out 5; have rf5 := blk_frozen HRES4.out 5; have r6 := blk_cell HRES4.out 6; have rf6 := blk_frozen HRES4.out 6; have r7 := blk_cell HRES4.out 7; have rf7 := blk_frozen HRES4.out 7; have r8 := blk_cell HRES4.out 8; have rf8 := blk_frozen HRES4.out 8; have r9 := blk_cell HRES4.out 9; have rf9 := blk_frozen HRES4.out 9; have r10 := blk_cell HRES4.out 10; have rf10 := blk_frozen HRES4.out 10; have r11 := blk_cell HRES4.out 11; have rf11 := blk_frozen HRES4.out 11; have r12 := blk_cell HRES4.out 12; have rf12 := blk_frozen HRES4.out 12; have r13 := blk_cell HRES4.out 13; have rf13 := blk_frozen HRES4.out 13; have g0 := blk_cell HFB4.out 0; have gf0 := blk_frozen HFB4.out 0; have g1 := blk_cell HFB4.out 1; have gf1 := blk_frozen HFB4.out 1; have g2 := blk_cell HFB4.out 2; have gf2 := blk_frozen HFB4.out 2; have k0 := blk_cell HF4.out 0; have k1 := blk_cell HF4.out 1; have k2 := blk_cell HF4.out 2; simp only [Env.gramV, tabE])
 all_goals
  go_wp2
  obtain ⟨hr, hf⟩ := law_res HRES4.out HFB4.out (by omega) (.slice vA T.V.length vc) (.slice aA T.A.length ac) (.slice bA T.B.length bc) (.string T.s1) (.string T.s2) (.string T.s3) (.string T.s4) (.string T.s5) (.string T.s6) (.string T.s7) (.string T.s8) (.bool T.b1) (.bool T.b2) (.bool T.b3) (.int .i64 er) (.int .i64 at_) (.int .i64 0)
  unfold lawSet gramSet at hr hf
  have q0 := blk_cell hr 0
  have q1 := blk_cell hr 1
  have q2 := blk_cell hr 2
  have q3 := blk_cell hr 3
  have q4 := blk_cell hr 4
  have q5 := blk_cell hr 5
  have q6 := blk_cell hr 6
  have q7 := blk_cell hr 7
  have q8 := blk_cell hr 8
  have q9 := blk_cell hr 9
  have q10 := blk_cell hr 10
  have q11 := blk_cell hr 11
  have q12 := blk_cell hr 12
  have q13 := blk_cell hr 13
  have p0 := blk_cell hf 0
  have p1 := blk_cell hf 1
  have p2 := blk_cell hf 2
  refine bodyPost_ret (v := .tuple #[(tabE T vA vc aA ac bA bc none 0 [] 0).gramV, .slice lA L.length lc, faultV er at_]) (by simp [results, Try.results6, go_sem, faultV, Env.gramV, tabE, q0, q1, q2, q3, q4, q5, q6, q7, q8, q9, q10, q11, q12, q13, p0, p1, p2]) rfl ?_
  exact law_fin HTOK.out HB3.out HBW.out (by omega) HL.out hc1 hc2 HB4.out HV4.out HA4.out HC4.out
set_option maxRecDepth 100000 in
set_option maxHeartbeats 8000000 in
theorem law6_1 (d : Int) (h : d.tmod 3 = 1) (s : ByteArray) (w : World) : Calls Try.prog 6 #[.int .i64 d, .string s] w (LawTo s w) := by
 have HB := Lib.hid (((Below.refl _ w).alloc (Nat.le_refl _) (.cells #[.slice none 0 0, .slice none 0 0, .slice none 0 0, .string ⟨#[]⟩, .string ⟨#[]⟩, .string ⟨#[]⟩, .string ⟨#[]⟩, .string ⟨#[]⟩, .string ⟨#[]⟩, .string ⟨#[]⟩, .string ⟨#[]⟩, .bool false, .bool false, .bool false] 24)).alloc (by simp) (.cells #[.int .i64 0, .int .i64 0, .int .i64 0] 28))
 have HRES := Lib.hid (blk_alloc (blk_new w (.cells #[.slice none 0 0, .slice none 0 0, .slice none 0 0, .string ⟨#[]⟩, .string ⟨#[]⟩, .string ⟨#[]⟩, .string ⟨#[]⟩, .string ⟨#[]⟩, .string ⟨#[]⟩, .string ⟨#[]⟩, .string ⟨#[]⟩, .bool false, .bool false, .bool false] 24)) (.cells #[.int .i64 0, .int .i64 0, .int .i64 0] 28))
 have HSZ := Lib.hid (show ((w.alloc (.cells #[.slice none 0 0, .slice none 0 0, .slice none 0 0, .string ⟨#[]⟩, .string ⟨#[]⟩, .string ⟨#[]⟩, .string ⟨#[]⟩, .string ⟨#[]⟩, .string ⟨#[]⟩, .string ⟨#[]⟩, .string ⟨#[]⟩, .bool false, .bool false, .bool false] 24)).alloc (.cells #[.int .i64 0, .int .i64 0, .int .i64 0] 28)).heap.size = w.heap.size + 2 by simp)
 have hfb := blk_new (w.alloc (.cells #[.slice none 0 0, .slice none 0 0, .slice none 0 0, .string ⟨#[]⟩, .string ⟨#[]⟩, .string ⟨#[]⟩, .string ⟨#[]⟩, .string ⟨#[]⟩, .string ⟨#[]⟩, .string ⟨#[]⟩, .string ⟨#[]⟩, .bool false, .bool false, .bool false] 24)) (.cells #[.int .i64 0, .int .i64 0, .int .i64 0] 28)
 rw [show (w.alloc (.cells #[.slice none 0 0, .slice none 0 0, .slice none 0 0, .string ⟨#[]⟩, .string ⟨#[]⟩, .string ⟨#[]⟩, .string ⟨#[]⟩, .string ⟨#[]⟩, .string ⟨#[]⟩, .string ⟨#[]⟩, .string ⟨#[]⟩, .bool false, .bool false, .bool false] 24)).heap.size = w.heap.size + 1 by simp] at hfb
 have HFB := Lib.hid hfb
 clear hfb
 go_enter Try.func6, Try.ntmps6
 go_wp2_with fail
 refine (lex14_any s _).mono ?_
 rintro e w1 ⟨hb1, lA, lc, L, er, at_, rfl, hg, hc1, hc2, -⟩
 have HB1 := Lib.hid (below_then HB.out HB.out.size hb1)
 have HRES1 := Lib.hid (blk_below HRES.out hb1 (blk_lt HRES.out))
 have HFB1 := Lib.hid (blk_below HFB.out hb1 (blk_lt HFB.out))
 rw [HSZ.out] at hg
 have HL := Lib.hid hg
 clear hb1 hg HB HRES HFB
 obtain ⟨T, hT⟩ : ∃ T, jayT = T := ⟨_, rfl⟩
 have HTAB := Lib.hid (show ∀ W, Calls Try.prog 15 #[] W (TabTo T W) by rw [← hT]; exact tab15_any)
 have HTOK := Lib.hid (show TabOK T by rw [← hT]; exact jayT_ok)
 clear hT
 unfold faultV
 go_upto_region 7 with fail
 obtain ⟨W3, hW3⟩ : ∃ W3, w1.alloc (.cells #[.int .i64 er, .int .i64 at_, .int .i64 0] 28) = W3 := ⟨_, rfl⟩
 have hbW : Below w1.heap.size w1 W3 := by rw [← hW3]; exact (Below.refl _ w1).alloc (Nat.le_refl _) _
 have HF3 := Lib.hid (show W3.heap[w1.heap.size]? = some (.cells #[.int .i64 er, .int .i64 at_, .int .i64 0] 28 (0, 0)) by rw [← hW3]; exact blk_new w1 _)
 rw [hW3]
 have HB3 := Lib.hid (below_then HB1.out HB1.out.size hbW)
 have HRES3 := Lib.hid (blk_below HRES1.out hbW (blk_lt HRES1.out))
 have HFB3 := Lib.hid (blk_below HFB1.out hbW (blk_lt HFB1.out))
 have HBW := Lib.hid hbW
 have h13 := hbW.size
 have hres1 := blk_lt HRES1.out
 have hfb1 := blk_lt HFB1.out
 have h01 := HB1.out.size
 clear hbW hW3 HB1 HRES1 HFB1
 have f0 := blk_cell HF3.out 0
 have ff0 := blk_frozen HF3.out 0
 have f1 := blk_cell HF3.out 1
 have ff1 := blk_frozen HF3.out 1
 have f2 := blk_cell HF3.out 2
 have ff2 := blk_frozen HF3.out 2
 go_region_with (go_at_call 15; refine (tab_from HTAB.out W3 _ ?_ ?_).mono ?_; (first | (exact Below.refl _ _) | (exact below_dr (Below.refl _ _))); rfl; rintro e w4 ⟨hb4, vA, aA, bA, vc, ac, bc, he, hv, ha, hb⟩; obtain rfl := he none 0 [] 0; have HRES4 := Lib.hid (blk_below HRES3.out hb4 (blk_lt HRES3.out)); have HFB4 := Lib.hid (blk_below HFB3.out hb4 (blk_lt HFB3.out)); have HF4 := Lib.hid (blk_below HF3.out hb4 (blk_lt HF3.out)); have hs4 := hb4.size; have HB4 := Lib.hid hb4; have HV4 := Lib.hid hv; have HA4 := Lib.hid ha; have HC4 := Lib.hid hb; clear hb4 hv ha hb he; have r0 := blk_cell HRES4.out 0; have rf0 := blk_frozen HRES4.out 0; have r1 := blk_cell HRES4.out 1; have rf1 := blk_frozen HRES4.out 1; have r2 := blk_cell HRES4.out 2; have rf2 := blk_frozen HRES4.out 2; have r3 := blk_cell HRES4.out 3; have rf3 := blk_frozen HRES4.out 3; have r4 := blk_cell HRES4.out 4; have rf4 := blk_frozen HRES4.out 4; have r5 := blk_cell HRES4.out 5; have rf5 := blk_frozen HRES4.out 5; have r6 := blk_cell HRES4.out 6; have rf6 := blk_frozen HRES4.out 6; have r7 := blk_cell HRES4.out 7; have rf7 := blk_frozen HRES4.out 7; have r8 := blk_cell HRES4.out 8; have rf8 := blk_frozen HRES4.out 8; have r9 := blk_cell HRES4.out 9; have rf9 := blk_frozen HRES4.out 9; have r10 := blk_cell HRES4.out 10; have rf10 := blk_frozen HRES4.out 10; have r11 := blk_cell HRES4.out 11; have rf11 := blk_frozen HRES4.out 11; have r12 := blk_cell HRES4.out 12; have rf12 := blk_frozen HRES4.out 12; have r13 := blk_cell HRES4.out 13; have rf13 := blk_frozen HRES4.out 13; have g0 := blk_cell HFB4.out 0; have gf0 := blk_frozen HFB4.out 0; have g1 := blk_cell HFB4.out 1; have gf1 := blk_frozen HFB4.out 1; have g2 := blk_cell HFB4.out 2; have gf2 := blk_frozen HFB4.out 2; have k0 := blk_cell HF4.out 0; have k1 := blk_cell HF4.out 1; have k2 := blk_cell HF4.out 2; simp only [Env.gramV, tabE])
 all_goals
  go_wp2
  obtain ⟨hr, hf⟩ := law_res HRES4.out HFB4.out (by omega) (.slice vA T.V.length vc) (.slice aA T.A.length ac) (.slice bA T.B.length bc) (.string T.s1) (.string T.s2) (.string T.s3) (.string T.s4) (.string T.s5) (.string T.s6) (.string T.s7) (.string T.s8) (.bool T.b1) (.bool T.b2) (.bool T.b3) (.int .i64 er) (.int .i64 at_) (.int .i64 0)
  unfold lawSet gramSet at hr hf
  have q0 := blk_cell hr 0
  have q1 := blk_cell hr 1
  have q2 := blk_cell hr 2
  have q3 := blk_cell hr 3
  have q4 := blk_cell hr 4
  have q5 := blk_cell hr 5
  have q6 := blk_cell hr 6
  have q7 := blk_cell hr 7
  have q8 := blk_cell hr 8
  have q9 := blk_cell hr 9
  have q10 := blk_cell hr 10
  have q11 := blk_cell hr 11
  have q12 := blk_cell hr 12
  have q13 := blk_cell hr 13
  have p0 := blk_cell hf 0
  have p1 := blk_cell hf 1
  have p2 := blk_cell hf 2
  refine bodyPost_ret (v := .tuple #[(tabE T vA vc aA ac bA bc none 0 [] 0).gramV, .slice lA L.length lc, faultV er at_]) (by simp [results, Try.results6, go_sem, faultV, Env.gramV, tabE, q0, q1, q2, q3, q4, q5, q6, q7, q8, q9, q10, q11, q12, q13, p0, p1, p2]) rfl ?_
  exact law_fin HTOK.out HB3.out HBW.out (by omega) HL.out hc1 hc2 HB4.out HV4.out HA4.out HC4.out
set_option maxRecDepth 100000 in
set_option maxHeartbeats 8000000 in
theorem law6_2 (d : Int) (h : d.tmod 3 = 2) (s : ByteArray) (w : World) : Calls Try.prog 6 #[.int .i64 d, .string s] w (LawTo s w) := by
 have HB := Lib.hid (((Below.refl _ w).alloc (Nat.le_refl _) (.cells #[.slice none 0 0, .slice none 0 0, .slice none 0 0, .string ⟨#[]⟩, .string ⟨#[]⟩, .string ⟨#[]⟩, .string ⟨#[]⟩, .string ⟨#[]⟩, .string ⟨#[]⟩, .string ⟨#[]⟩, .string ⟨#[]⟩, .bool false, .bool false, .bool false] 24)).alloc (by simp) (.cells #[.int .i64 0, .int .i64 0, .int .i64 0] 28))
 have HRES := Lib.hid (blk_alloc (blk_new w (.cells #[.slice none 0 0, .slice none 0 0, .slice none 0 0, .string ⟨#[]⟩, .string ⟨#[]⟩, .string ⟨#[]⟩, .string ⟨#[]⟩, .string ⟨#[]⟩, .string ⟨#[]⟩, .string ⟨#[]⟩, .string ⟨#[]⟩, .bool false, .bool false, .bool false] 24)) (.cells #[.int .i64 0, .int .i64 0, .int .i64 0] 28))
 have HSZ := Lib.hid (show ((w.alloc (.cells #[.slice none 0 0, .slice none 0 0, .slice none 0 0, .string ⟨#[]⟩, .string ⟨#[]⟩, .string ⟨#[]⟩, .string ⟨#[]⟩, .string ⟨#[]⟩, .string ⟨#[]⟩, .string ⟨#[]⟩, .string ⟨#[]⟩, .bool false, .bool false, .bool false] 24)).alloc (.cells #[.int .i64 0, .int .i64 0, .int .i64 0] 28)).heap.size = w.heap.size + 2 by simp)
 have hfb := blk_new (w.alloc (.cells #[.slice none 0 0, .slice none 0 0, .slice none 0 0, .string ⟨#[]⟩, .string ⟨#[]⟩, .string ⟨#[]⟩, .string ⟨#[]⟩, .string ⟨#[]⟩, .string ⟨#[]⟩, .string ⟨#[]⟩, .string ⟨#[]⟩, .bool false, .bool false, .bool false] 24)) (.cells #[.int .i64 0, .int .i64 0, .int .i64 0] 28)
 rw [show (w.alloc (.cells #[.slice none 0 0, .slice none 0 0, .slice none 0 0, .string ⟨#[]⟩, .string ⟨#[]⟩, .string ⟨#[]⟩, .string ⟨#[]⟩, .string ⟨#[]⟩, .string ⟨#[]⟩, .string ⟨#[]⟩, .string ⟨#[]⟩, .bool false, .bool false, .bool false] 24)).heap.size = w.heap.size + 1 by simp] at hfb
 have HFB := Lib.hid hfb
 clear hfb
 go_enter Try.func6, Try.ntmps6
 go_wp2_with fail
 refine (lex16_any s _).mono ?_
 rintro e w1 ⟨hb1, lA, lc, L, er, at_, rfl, hg, hc1, hc2, -⟩
 have HB1 := Lib.hid (below_then HB.out HB.out.size hb1)
 have HRES1 := Lib.hid (blk_below HRES.out hb1 (blk_lt HRES.out))
 have HFB1 := Lib.hid (blk_below HFB.out hb1 (blk_lt HFB.out))
 rw [HSZ.out] at hg
 have HL := Lib.hid hg
 clear hb1 hg HB HRES HFB
 obtain ⟨T, hT⟩ : ∃ T, kayT = T := ⟨_, rfl⟩
 have HTAB := Lib.hid (show ∀ W, Calls Try.prog 17 #[] W (TabTo T W) by rw [← hT]; exact tab17_any)
 have HTOK := Lib.hid (show TabOK T by rw [← hT]; exact kayT_ok)
 clear hT
 unfold faultV
 go_upto_region 9 with fail
 obtain ⟨W3, hW3⟩ : ∃ W3, w1.alloc (.cells #[.int .i64 er, .int .i64 at_, .int .i64 0] 28) = W3 := ⟨_, rfl⟩
 have hbW : Below w1.heap.size w1 W3 := by rw [← hW3]; exact (Below.refl _ w1).alloc (Nat.le_refl _) _
 have HF3 := Lib.hid (show W3.heap[w1.heap.size]? = some (.cells #[.int .i64 er, .int .i64 at_, .int .i64 0] 28 (0, 0)) by rw [← hW3]; exact blk_new w1 _)
 rw [hW3]
 have HB3 := Lib.hid (below_then HB1.out HB1.out.size hbW)
 have HRES3 := Lib.hid (blk_below HRES1.out hbW (blk_lt HRES1.out))
 have HFB3 := Lib.hid (blk_below HFB1.out hbW (blk_lt HFB1.out))
 have HBW := Lib.hid hbW
 have h13 := hbW.size
 have hres1 := blk_lt HRES1.out
 have hfb1 := blk_lt HFB1.out
 have h01 := HB1.out.size
 clear hbW hW3 HB1 HRES1 HFB1
 have f0 := blk_cell HF3.out 0
 have ff0 := blk_frozen HF3.out 0
 have f1 := blk_cell HF3.out 1
 have ff1 := blk_frozen HF3.out 1
 have f2 := blk_cell HF3.out 2
 have ff2 := blk_frozen HF3.out 2
 go_region_with (go_at_call 17; refine (tab_from HTAB.out W3 _ ?_ ?_).mono ?_; (first | (exact Below.refl _ _) | (exact below_dr (Below.refl _ _))); rfl; rintro e w4 ⟨hb4, vA, aA, bA, vc, ac, bc, he, hv, ha, hb⟩; obtain rfl := he none 0 [] 0; have HRES4 := Lib.hid (blk_below HRES3.out hb4 (blk_lt HRES3.out)); have HFB4 := Lib.hid (blk_below HFB3.out hb4 (blk_lt HFB3.out)); have HF4 := Lib.hid (blk_below HF3.out hb4 (blk_lt HF3.out)); have hs4 := hb4.size; have HB4 := Lib.hid hb4; have HV4 := Lib.hid hv; have HA4 := Lib.hid ha; have HC4 := Lib.hid hb; clear hb4 hv ha hb he; have r0 := blk_cell HRES4.out 0; have rf0 := blk_frozen HRES4.out 0; have r1 := blk_cell HRES4.out 1; have rf1 := blk_frozen HRES4.out 1; have r2 := blk_cell HRES4.out 2; have rf2 := blk_frozen HRES4.out 2; have r3 := blk_cell HRES4.out 3; have rf3 := blk_frozen HRES4.out 3; have r4 := blk_cell HRES4.out 4; have rf4 := blk_frozen HRES4.out 4; have r5 := blk_cell HRES4.out 5; have rf5 := blk_frozen HRES4.out 5; have r6 := blk_cell HRES4.out 6; have rf6 := blk_frozen HRES4.out 6; have r7 := blk_cell HRES4.out 7; have rf7 := blk_frozen HRES4.out 7; have r8 := blk_cell HRES4.out 8; have rf8 := blk_frozen HRES4.out 8; have r9 := blk_cell HRES4.out 9; have rf9 := blk_frozen HRES4.out 9; have r10 := blk_cell HRES4.out 10; have rf10 := blk_frozen HRES4.out 10; have r11 := blk_cell HRES4.out 11; have rf11 := blk_frozen HRES4.out 11; have r12 := blk_cell HRES4.out 12; have rf12 := blk_frozen HRES4.out 12; have r13 := blk_cell HRES4.out 13; have rf13 := blk_frozen HRES4.out 13; have g0 := blk_cell HFB4.out 0; have gf0 := blk_frozen HFB4.out 0; have g1 := blk_cell HFB4.out 1; have gf1 := blk_frozen HFB4.out 1; have g2 := blk_cell HFB4.out 2; have gf2 := blk_frozen HFB4.out 2; have k0 := blk_cell HF4.out 0; have k1 := blk_cell HF4.out 1; have k2 := blk_cell HF4.out 2; simp only [Env.gramV, tabE])
 all_goals
  go_wp2
  obtain ⟨hr, hf⟩ := law_res HRES4.out HFB4.out (by omega) (.slice vA T.V.length vc) (.slice aA T.A.length ac) (.slice bA T.B.length bc) (.string T.s1) (.string T.s2) (.string T.s3) (.string T.s4) (.string T.s5) (.string T.s6) (.string T.s7) (.string T.s8) (.bool T.b1) (.bool T.b2) (.bool T.b3) (.int .i64 er) (.int .i64 at_) (.int .i64 0)
  unfold lawSet gramSet at hr hf
  have q0 := blk_cell hr 0
  have q1 := blk_cell hr 1
  have q2 := blk_cell hr 2
  have q3 := blk_cell hr 3
  have q4 := blk_cell hr 4
  have q5 := blk_cell hr 5
  have q6 := blk_cell hr 6
  have q7 := blk_cell hr 7
  have q8 := blk_cell hr 8
  have q9 := blk_cell hr 9
  have q10 := blk_cell hr 10
  have q11 := blk_cell hr 11
  have q12 := blk_cell hr 12
  have q13 := blk_cell hr 13
  have p0 := blk_cell hf 0
  have p1 := blk_cell hf 1
  have p2 := blk_cell hf 2
  refine bodyPost_ret (v := .tuple #[(tabE T vA vc aA ac bA bc none 0 [] 0).gramV, .slice lA L.length lc, faultV er at_]) (by simp [results, Try.results6, go_sem, faultV, Env.gramV, tabE, q0, q1, q2, q3, q4, q5, q6, q7, q8, q9, q10, q11, q12, q13, p0, p1, p2]) rfl ?_
  exact law_fin HTOK.out HB3.out HBW.out (by omega) HL.out hc1 hc2 HB4.out HV4.out HA4.out HC4.out
theorem law6_any (d : Int) (s : ByteArray) (w : World) : Calls Try.prog 6 #[.int .i64 d, .string s] w (LawTo s w) := by
 have h1 := Int.lt_tmod_of_pos d (b := 3) (by decide)
 have h2 := Int.tmod_lt_of_pos d (b := 3) (by decide)
 have hr : d.tmod 3 = -2 ∨ d.tmod 3 = -1 ∨ d.tmod 3 = 0 ∨ d.tmod 3 = 1 ∨ d.tmod 3 = 2 := by omega
 rcases hr with h | h | h | h | h
 ·exact law6_m2 d h s w
 ·exact law6_m1 d h s w
 ·exact law6_0 d h s w
 ·exact law6_1 d h s w
 ·exact law6_2 d h s w
end Go.Proofs.Ytollglblkbjgjaa
namespace Go.Proofs.Ytollglblkbjgjaa
open Go.RowKit

/-- no element is appended -/
theorem wpList_append_none {P : Program} (w : World) {ops : Array Oper} {rest : List Oper} {o : Oper} {a : Act} {Q : Exit → Act → World → Prop} (hgd : o.guard = none) (s x : Operand) (t : TypeId)
  (ho : o.op = .call { callee := .builtin .append, args := #[s, x], argTypes := #[t, t] }) (e : TypeId) (i : TypeInfo) (ht : P.underlying t = some (.slice e)) (hi : P.info? e = some i)
  (A : Option Addr) (n c : Nat) (hnc : n ≤ c) (hs : a.eval s = .slice A n c) (B : Option Addr) (d : Nat) (hx : a.eval x = .slice B 0 d)
  (h : wpList P ops Q rest (a.put o.dst (.slice A n c)) w) : wpList P ops Q (o :: rest) a w := by
 refine wpList_plain hgd fun K hK => ?_
 have hsrc : Src P i.size t (.slice B 0 d) 0 [] w := by
  cases B with
  | none => exact Src.ofNil w ht d
  | some ad => exact Src.ofSlice w ht ad 0 d [] (by simp) (fun j u hu => by simp at hu) (fun u hu => by simp at hu)
 have hr := run_append_nothing (P := P) w t t o.type e i ht hi A n c hnc (.slice B 0 d) hsrc
 unfold Oper.wp execOp
 simp only [ho, resolve, invoke, builtin, Sem.run_bind, Sem.run_pure, Result.andThen_ok, List.map_toArray, List.map_cons, List.map_nil, hs, hx, hr]
 exact hK _ _ h
theorem toks_cells {w : World} {b off : Nat} {L : List Tok} (h : ∀ j t, L[j]? = some t → TokAt w b (off + j * 5) t) : ∀ (j : Nat) (u : Value), (toksVals L)[j]? = some u → w.cell? ((⟨b, off, none⟩ : Addr).add j) = some u := by
 intro j u hu
 have hj := (List.getElem?_eq_some_iff.1 hu).1
 rw [toksVals_length] at hj
 have hi : j / 5 < L.length := by omega
 have ht : L[j / 5]? = some L[j / 5] := List.getElem?_eq_getElem hi
 obtain ⟨k0, k1, k2, k3, k4, _⟩ := h _ _ ht
 have hg := toksVals_get L (j / 5) _ ht (j % 5) (by omega)
 rw [show j / 5 * 5 + j % 5 = j by omega, hu] at hg
 rw [Addr.add_lit]
 have hr : j % 5 = 0 ∨ j % 5 = 1 ∨ j % 5 = 2 ∨ j % 5 = 3 ∨ j % 5 = 4 := by omega
 rcases hr with hr | hr | hr | hr | hr <;> rw [hr] at hg <;> simp only [tokVals, List.getElem?_cons_zero, List.getElem?_cons_succ, Option.some.injEq] at hg <;> subst hg
 ·rw [show off + j = off + j / 5 * 5 by omega]; exact k0
 ·rw [show off + j = off + j / 5 * 5 + 1 by omega]; exact k1
 ·rw [show off + j = off + j / 5 * 5 + 2 by omega]; exact k2
 ·rw [show off + j = off + j / 5 * 5 + 3 by omega]; exact k3
 ·rw [show off + j = off + j / 5 * 5 + 4 by omega]; exact k4
theorem toks_own {w : World} {base : Nat} {A : Option Addr} {c : Nat} {L : List Tok} (h : w.ownsRow base 43 5 (.slice A L.length c) L.length (toksVals L)) (hl : ∀ (i : Nat) (t : Tok), L[i]? = some t → LitRead w t.lit t.lit.c0 t.lit.n0) : ToksRead w A L := by
 intro h0
 obtain ⟨b, hb, _, _, hcell⟩ := rowIn_own h (by rw [toksVals_length]; omega)
 refine ⟨b, 0, hb, fun j t ht => ?_⟩
 have g := fun k hk => toksVals_get L j t ht k hk
 have g0 := g 0 (by omega)
 have g1 := g 1 (by omega)
 have g2 := g 2 (by omega)
 have g3 := g 3 (by omega)
 have g4 := g 4 (by omega)
 rw [Nat.zero_add]
 exact ⟨hcell _ _ g0, hcell _ _ g1, hcell _ _ g2, hcell _ _ g3, hcell _ _ g4, hl j t ht⟩
theorem toksVals_one (L : List Tok) : ∀ u ∈ toksVals L, u.oneCell' = true := by
 intro u hu
 obtain ⟨t, _, h⟩ := List.mem_flatMap.1 hu
 exact tokVals_one t u h
theorem toksVals_append (a b : List Tok) : toksVals (a ++ b) = toksVals a ++ toksVals b := by simp [toksVals]
theorem flat_arr {w : World} {l : Lt} (h : FlatL w l) : ∃ (d : Nat) (N : Int), ArrN w d (.agg #[.slice l.sA l.sn l.sc, .slice l.cA l.cn l.cc]) N := by
 obtain ⟨h1, h2, _, h4⟩ := h
 refine ⟨1, accI (fun _ => 0) (fun _ _ => 0) l.cn l.cn, ?_⟩
 by_cases h0 : 0 < l.cn
 ·obtain ⟨b, off, hb, hc⟩ := h4 h0
  refine ⟨l.sA, l.sn, l.sc, l.cA, l.cn, l.cc, fun i => if h : i < l.cn then (hc i h).choose else 0, fun i => if h : i < l.cn then (hc i h).choose_spec.choose else 0, fun _ => none, fun _ => 0, fun _ => 0, fun _ _ => none, fun _ _ => none, fun _ _ => 0, fun _ _ => 0, fun _ _ => 0, fun _ _ => 0, fun _ _ => 0, rfl, by omega, by omega, rfl, fun _ => ⟨b, off, hb, fun i hi => ?_⟩⟩
  have hs := (hc i hi).choose_spec.choose_spec
  simp only [dif_pos hi]
  exact ⟨hs.1, hs.2.1, hs.2.2, by omega, fun h => absurd h (by omega)⟩
 ·exact ⟨l.sA, l.sn, l.sc, l.cA, l.cn, l.cc, fun _ => 0, fun _ => 0, fun _ => none, fun _ => 0, fun _ => 0, fun _ _ => none, fun _ _ => none, fun _ _ => 0, fun _ _ => 0, fun _ _ => 0, fun _ _ => 0, fun _ _ => 0, rfl, by omega, by omega, rfl, fun h => absurd h h0⟩
theorem good_arrs {s : ByteArray} {w : World} {E : Env} (h : ToksGood s w E.lA E.L) : ArrsAt w E := fun j t ht => flat_arr (h.flat j t ht)
theorem litzero_read (w : World) : LitRead w Lt.zero Lt.zero.c0 Lt.zero.n0 := fun h => absurd h (by decide)
/-- a word of the law's own -/
def ownTok (k : Int) (x : ByteArray) (a : Int) : Tok := ⟨k, x, Lt.zero, a⟩
end Go.Proofs.Ytollglblkbjgjaa
