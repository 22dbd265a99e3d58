/- Contract of works(): the parser told apart two texts. Conditions: none. -/
import Derived.Test.YtollglblkbjgjaaHk
import Derived.Deep.DeepCutAuto
namespace Go.Proofs.Ytollglblkbjgjaa
open Go.RowKit

def aplV : List ByteArray := [⟨#[43]⟩, ⟨#[45]⟩, ⟨#[195, 151]⟩, ⟨#[124]⟩, ⟨#[126]⟩, ⟨#[226, 141, 179]⟩, ⟨#[226, 141, 180]⟩, ⟨#[226, 137, 162]⟩, ⟨#[44]⟩, ⟨#[226, 138, 150]⟩, ⟨#[226, 140, 189]⟩, ⟨#[226, 141, 137]⟩, ⟨#[226, 141, 139]⟩, ⟨#[226, 141, 146]⟩, ⟨#[226, 136, 170]⟩, ⟨#[226, 138, 130]⟩, ⟨#[226, 138, 131]⟩, ⟨#[195, 183]⟩, ⟨#[226, 140, 138]⟩, ⟨#[226, 140, 136]⟩, ⟨#[61]⟩, ⟨#[226, 137, 160]⟩, ⟨#[60]⟩, ⟨#[62]⟩, ⟨#[226, 137, 164]⟩, ⟨#[226, 137, 165]⟩, ⟨#[226, 134, 145]⟩, ⟨#[226, 134, 147]⟩, ⟨#[226, 141, 170]⟩, ⟨#[226, 136, 138]⟩, ⟨#[226, 140, 183]⟩]
def aplA : List ByteArray := [⟨#[47]⟩, ⟨#[226, 140, 191]⟩, ⟨#[92]⟩, ⟨#[226, 141, 128]⟩, ⟨#[226, 141, 168]⟩]
def aplB : List ByteArray := [⟨#[47]⟩, ⟨#[226, 140, 191]⟩]
def aplE (vA : Option Addr) (vc : Nat) (aA : Option Addr) (ac : Nat) (bA : Option Addr) (bc : Nat) (lA : Option Addr) (lc : Nat) (L : List Tok) (en : Int) : Env :=
 ⟨vA, vc, aplV, aA, ac, aplA, bA, bc, aplB, ⟨#[226, 136, 152, 46]⟩, ⟨#[226, 141, 163]⟩, ⟨#[123]⟩, ⟨#[125]⟩, ⟨#[226, 141, 186]⟩, ⟨#[226, 141, 181]⟩, ⟨#[194, 175]⟩, ⟨#[39]⟩, false, false, true, lA, lc, L, en⟩
theorem works_ok (vA aA bA lA : Option Addr) (vc ac bc lc : Nat) (l0 l1 l2 l3 : Lt) (a0 a1 a2 a3 en : Int) : (aplE vA vc aA ac bA bc lA lc [⟨1, ⟨#[]⟩, l0, a0⟩, ⟨4, ⟨#[43]⟩, l1, a1⟩, ⟨4, ⟨#[226, 141, 179]⟩, l2, a2⟩, ⟨1, ⟨#[]⟩, l3, a3⟩] en).parseM = .ok (.mk 6 0 ⟨#[]⟩ Lt.zero [.mk 21 0 ⟨#[43]⟩ Lt.zero [] a1, .mk 1 0 ⟨#[]⟩ l0 [] a0, .mk 5 0 ⟨#[]⟩ Lt.zero [.mk 21 0 ⟨#[226, 141, 179]⟩ Lt.zero [] a2, .mk 1 0 ⟨#[]⟩ l3 [] a3] a2] a0) 4 := by kernel_rfl
theorem works_bad (vA aA bA lA : Option Addr) (vc ac bc lc : Nat) (l0 l1 : Lt) (a0 a1 en : Int) : (aplE vA vc aA ac bA bc lA lc [⟨1, ⟨#[]⟩, l0, a0⟩, ⟨4, ⟨#[43]⟩, l1, a1⟩] en).parseM = .bad 2 2 := by kernel_rfl

theorem strs_blk {w : World} {b t : Nat} {fr : Nat × Nat} {l : List ByteArray} (h : w.heap[b]? = some (.cells (l.map Value.string).toArray t fr)) : StrsAt w (some ⟨b, 0, none⟩) l := by
 intro _
 refine ⟨b, 0, rfl, fun j x hx => ?_⟩
 rw [Nat.zero_add]
 have := blk_cell h j
 rw [this]
 simp [hx]
/-- the table of APL's words -/
def AplTo (w : World) (e : Ending) (w' : World) : Prop := Below w.heap.size w w' ∧ ∃ (vA aA bA : Option Addr) (vc ac bc : Nat), (∀ lA lc L en, e = .returned (aplE vA vc aA ac bA bc lA lc L en).gramV) ∧ StrsAt w' vA aplV ∧ StrsAt w' aA aplA ∧ StrsAt w' bA aplB
set_option maxRecDepth 100000 in
set_option maxHeartbeats 4000000 in
theorem apl_any (w : World) : Calls Try.prog 13 #[] w (AplTo w) := by
 go_enter Try.func13, Try.ntmps13
 go_wp2
 have hr := blk_alloc (blk_alloc (blk_alloc (blk_new w (.cells #[.slice (some ⟨w.heap.size + 1, 0, none⟩) 31 31, .slice (some ⟨w.heap.size + 1 + 1, 0, none⟩) 5 5, .slice (some ⟨w.heap.size + 1 + 1 + 1, 0, none⟩) 2 2, .string ⟨#[226, 136, 152, 46]⟩, .string ⟨#[226, 141, 163]⟩, .string ⟨#[123]⟩, .string ⟨#[125]⟩, .string ⟨#[226, 141, 186]⟩, .string ⟨#[226, 141, 181]⟩, .string ⟨#[194, 175]⟩, .string ⟨#[39]⟩, .bool false, .bool false, .bool true] 24)) (.cells #[.string ⟨#[43]⟩, .string ⟨#[45]⟩, .string ⟨#[195, 151]⟩, .string ⟨#[124]⟩, .string ⟨#[126]⟩, .string ⟨#[226, 141, 179]⟩, .string ⟨#[226, 141, 180]⟩, .string ⟨#[226, 137, 162]⟩, .string ⟨#[44]⟩, .string ⟨#[226, 138, 150]⟩, .string ⟨#[226, 140, 189]⟩, .string ⟨#[226, 141, 137]⟩, .string ⟨#[226, 141, 139]⟩, .string ⟨#[226, 141, 146]⟩, .string ⟨#[226, 136, 170]⟩, .string ⟨#[226, 138, 130]⟩, .string ⟨#[226, 138, 131]⟩, .string ⟨#[195, 183]⟩, .string ⟨#[226, 140, 138]⟩, .string ⟨#[226, 140, 136]⟩, .string ⟨#[61]⟩, .string ⟨#[226, 137, 160]⟩, .string ⟨#[60]⟩, .string ⟨#[62]⟩, .string ⟨#[226, 137, 164]⟩, .string ⟨#[226, 137, 165]⟩, .string ⟨#[226, 134, 145]⟩, .string ⟨#[226, 134, 147]⟩, .string ⟨#[226, 141, 170]⟩, .string ⟨#[226, 136, 138]⟩, .string ⟨#[226, 140, 183]⟩] 9)) (.cells #[.string ⟨#[47]⟩, .string ⟨#[226, 140, 191]⟩, .string ⟨#[92]⟩, .string ⟨#[226, 141, 128]⟩, .string ⟨#[226, 141, 168]⟩] 9)) (.cells #[.string ⟨#[47]⟩, .string ⟨#[226, 140, 191]⟩] 9)
 have hv := blk_alloc (blk_alloc (blk_new (w.alloc (.cells #[.slice (some ⟨w.heap.size + 1, 0, none⟩) 31 31, .slice (some ⟨w.heap.size + 1 + 1, 0, none⟩) 5 5, .slice (some ⟨w.heap.size + 1 + 1 + 1, 0, none⟩) 2 2, .string ⟨#[226, 136, 152, 46]⟩, .string ⟨#[226, 141, 163]⟩, .string ⟨#[123]⟩, .string ⟨#[125]⟩, .string ⟨#[226, 141, 186]⟩, .string ⟨#[226, 141, 181]⟩, .string ⟨#[194, 175]⟩, .string ⟨#[39]⟩, .bool false, .bool false, .bool true] 24)) (.cells #[.string ⟨#[43]⟩, .string ⟨#[45]⟩, .string ⟨#[195, 151]⟩, .string ⟨#[124]⟩, .string ⟨#[126]⟩, .string ⟨#[226, 141, 179]⟩, .string ⟨#[226, 141, 180]⟩, .string ⟨#[226, 137, 162]⟩, .string ⟨#[44]⟩, .string ⟨#[226, 138, 150]⟩, .string ⟨#[226, 140, 189]⟩, .string ⟨#[226, 141, 137]⟩, .string ⟨#[226, 141, 139]⟩, .string ⟨#[226, 141, 146]⟩, .string ⟨#[226, 136, 170]⟩, .string ⟨#[226, 138, 130]⟩, .string ⟨#[226, 138, 131]⟩, .string ⟨#[195, 183]⟩, .string ⟨#[226, 140, 138]⟩, .string ⟨#[226, 140, 136]⟩, .string ⟨#[61]⟩, .string ⟨#[226, 137, 160]⟩, .string ⟨#[60]⟩, .string ⟨#[62]⟩, .string ⟨#[226, 137, 164]⟩, .string ⟨#[226, 137, 165]⟩, .string ⟨#[226, 134, 145]⟩, .string ⟨#[226, 134, 147]⟩, .string ⟨#[226, 141, 170]⟩, .string ⟨#[226, 136, 138]⟩, .string ⟨#[226, 140, 183]⟩] 9)) (.cells #[.string ⟨#[47]⟩, .string ⟨#[226, 140, 191]⟩, .string ⟨#[92]⟩, .string ⟨#[226, 141, 128]⟩, .string ⟨#[226, 141, 168]⟩] 9)) (.cells #[.string ⟨#[47]⟩, .string ⟨#[226, 140, 191]⟩] 9)
 have ha := blk_alloc (blk_new ((w.alloc (.cells #[.slice (some ⟨w.heap.size + 1, 0, none⟩) 31 31, .slice (some ⟨w.heap.size + 1 + 1, 0, none⟩) 5 5, .slice (some ⟨w.heap.size + 1 + 1 + 1, 0, none⟩) 2 2, .string ⟨#[226, 136, 152, 46]⟩, .string ⟨#[226, 141, 163]⟩, .string ⟨#[123]⟩, .string ⟨#[125]⟩, .string ⟨#[226, 141, 186]⟩, .string ⟨#[226, 141, 181]⟩, .string ⟨#[194, 175]⟩, .string ⟨#[39]⟩, .bool false, .bool false, .bool true] 24)).alloc (.cells #[.string ⟨#[43]⟩, .string ⟨#[45]⟩, .string ⟨#[195, 151]⟩, .string ⟨#[124]⟩, .string ⟨#[126]⟩, .string ⟨#[226, 141, 179]⟩, .string ⟨#[226, 141, 180]⟩, .string ⟨#[226, 137, 162]⟩, .string ⟨#[44]⟩, .string ⟨#[226, 138, 150]⟩, .string ⟨#[226, 140, 189]⟩, .string ⟨#[226, 141, 137]⟩, .string ⟨#[226, 141, 139]⟩, .string ⟨#[226, 141, 146]⟩, .string ⟨#[226, 136, 170]⟩, .string ⟨#[226, 138, 130]⟩, .string ⟨#[226, 138, 131]⟩, .string ⟨#[195, 183]⟩, .string ⟨#[226, 140, 138]⟩, .string ⟨#[226, 140, 136]⟩, .string ⟨#[61]⟩, .string ⟨#[226, 137, 160]⟩, .string ⟨#[60]⟩, .string ⟨#[62]⟩, .string ⟨#[226, 137, 164]⟩, .string ⟨#[226, 137, 165]⟩, .string ⟨#[226, 134, 145]⟩, .string ⟨#[226, 134, 147]⟩, .string ⟨#[226, 141, 170]⟩, .string ⟨#[226, 136, 138]⟩, .string ⟨#[226, 140, 183]⟩] 9)) (.cells #[.string ⟨#[47]⟩, .string ⟨#[226, 140, 191]⟩, .string ⟨#[92]⟩, .string ⟨#[226, 141, 128]⟩, .string ⟨#[226, 141, 168]⟩] 9)) (.cells #[.string ⟨#[47]⟩, .string ⟨#[226, 140, 191]⟩] 9)
 have hb := blk_new (((w.alloc (.cells #[.slice (some ⟨w.heap.size + 1, 0, none⟩) 31 31, .slice (some ⟨w.heap.size + 1 + 1, 0, none⟩) 5 5, .slice (some ⟨w.heap.size + 1 + 1 + 1, 0, none⟩) 2 2, .string ⟨#[226, 136, 152, 46]⟩, .string ⟨#[226, 141, 163]⟩, .string ⟨#[123]⟩, .string ⟨#[125]⟩, .string ⟨#[226, 141, 186]⟩, .string ⟨#[226, 141, 181]⟩, .string ⟨#[194, 175]⟩, .string ⟨#[39]⟩, .bool false, .bool false, .bool true] 24)).alloc (.cells #[.string ⟨#[43]⟩, .string ⟨#[45]⟩, .string ⟨#[195, 151]⟩, .string ⟨#[124]⟩, .string ⟨#[126]⟩, .string ⟨#[226, 141, 179]⟩, .string ⟨#[226, 141, 180]⟩, .string ⟨#[226, 137, 162]⟩, .string ⟨#[44]⟩, .string ⟨#[226, 138, 150]⟩, .string ⟨#[226, 140, 189]⟩, .string ⟨#[226, 141, 137]⟩, .string ⟨#[226, 141, 139]⟩, .string ⟨#[226, 141, 146]⟩, .string ⟨#[226, 136, 170]⟩, .string ⟨#[226, 138, 130]⟩, .string ⟨#[226, 138, 131]⟩, .string ⟨#[195, 183]⟩, .string ⟨#[226, 140, 138]⟩, .string ⟨#[226, 140, 136]⟩, .string ⟨#[61]⟩, .string ⟨#[226, 137, 160]⟩, .string ⟨#[60]⟩, .string ⟨#[62]⟩, .string ⟨#[226, 137, 164]⟩, .string ⟨#[226, 137, 165]⟩, .string ⟨#[226, 134, 145]⟩, .string ⟨#[226, 134, 147]⟩, .string ⟨#[226, 141, 170]⟩, .string ⟨#[226, 136, 138]⟩, .string ⟨#[226, 140, 183]⟩] 9)).alloc (.cells #[.string ⟨#[47]⟩, .string ⟨#[226, 140, 191]⟩, .string ⟨#[92]⟩, .string ⟨#[226, 141, 128]⟩, .string ⟨#[226, 141, 168]⟩] 9)) (.cells #[.string ⟨#[47]⟩, .string ⟨#[226, 140, 191]⟩] 9)
 have sz : ∀ (W : World) (o : Obj), (W.alloc o).heap.size = W.heap.size + 1 := fun W o => by simp
 rw [sz] at hv
 rw [sz, sz] at ha
 rw [sz, sz, sz] at hb
 have q0 := blk_cell hr 0
 have q1 := blk_cell hr 1
 have q2 := blk_cell hr 2
 have q3 := blk_cell hr 3
 have q4 := blk_cell hr 4
 have q5 := blk_cell hr 5
 have q6 := blk_cell hr 6
 have q7 := blk_cell hr 7
 have q8 := blk_cell hr 8
 have q9 := blk_cell hr 9
 have q10 := blk_cell hr 10
 have q11 := blk_cell hr 11
 have q12 := blk_cell hr 12
 have q13 := blk_cell hr 13
 refine bodyPost_ret (v := .agg #[.slice (some ⟨w.heap.size + 1, 0, none⟩) 31 31, .slice (some ⟨w.heap.size + 1 + 1, 0, none⟩) 5 5, .slice (some ⟨w.heap.size + 1 + 1 + 1, 0, none⟩) 2 2, .string ⟨#[226, 136, 152, 46]⟩, .string ⟨#[226, 141, 163]⟩, .string ⟨#[123]⟩, .string ⟨#[125]⟩, .string ⟨#[226, 141, 186]⟩, .string ⟨#[226, 141, 181]⟩, .string ⟨#[194, 175]⟩, .string ⟨#[39]⟩, .bool false, .bool false, .bool true]) (by simp [results, Try.results13, go_sem, q0, q1, q2, q3, q4, q5, q6, q7, q8, q9, q10, q11, q12, q13]) rfl ?_
 exact ⟨(((((Below.refl _ w).alloc (Nat.le_refl _) _).alloc (by simp) _).alloc (by simp; omega) _).alloc (by simp; omega) _), _, _, _, _, _, _, fun _ _ _ _ => rfl, strs_blk (l := aplV) hv, strs_blk (l := aplA) ha, strs_blk (l := aplB) hb⟩
/-- what works reads: 1+iota 3 -/
theorem lex_works : (if (⟨#[49, 43, 226, 141, 179, 51]⟩ : ByteArray).size ≤ 8192 then lexM oneM12 end12 ⟨#[49, 43, 226, 141, 179, 51]⟩ 2048 (blanks ⟨#[49, 43, 226, 141, 179, 51]⟩ 0) else none) = some [(1, ⟨#[]⟩), (4, ⟨#[43]⟩), (4, ⟨#[226, 141, 179]⟩), (1, ⟨#[]⟩)] := by kernel_rfl
theorem kx_four {L : List Tok} {k0 k1 k2 k3 : Int} {x0 x1 x2 x3 : ByteArray} (h : L.map kx = [(k0, x0), (k1, x1), (k2, x2), (k3, x3)]) : ∃ (l0 l1 l2 l3 : Lt) (a0 a1 a2 a3 : Int), L = [⟨k0, x0, l0, a0⟩, ⟨k1, x1, l1, a1⟩, ⟨k2, x2, l2, a2⟩, ⟨k3, x3, l3, a3⟩] := by
 match L, h with
 | [⟨c0, y0, l0, a0⟩, ⟨c1, y1, l1, a1⟩, ⟨c2, y2, l2, a2⟩, ⟨c3, y3, l3, a3⟩], h =>
  simp only [List.map_cons, List.map_nil, kx, List.cons.injEq, Prod.mk.injEq, and_true] at h
  obtain ⟨⟨rfl, rfl⟩, ⟨rfl, rfl⟩, ⟨rfl, rfl⟩, rfl, rfl⟩ := h
  exact ⟨_, _, _, _, _, _, _, _, rfl⟩
def WorksTo (w : World) (e : Ending) (w' : World) : Prop := e = .returned (.bool true) ∧ Below w.heap.size w w'
theorem aplEnv {w w' : World} {vA aA bA lA : Option Addr} {L : List Tok} {s : ByteArray} (vc ac bc lc : Nat) (en : Int) (hv : StrsAt w vA aplV) (ha : StrsAt w aA aplA) (hb : StrsAt w bA aplB) (hl : ToksGood s w lA L) (h : Below w.heap.size w w') : EnvAt w' (aplE vA vc aA ac bA bc lA lc L en) :=
 ⟨hv.below h, ha.below h, hb.below h, hl.read.below h, (by decide : (31 : Nat) ≤ 1000000), (by decide : (5 : Nat) ≤ 1000000), (by decide : (2 : Nat) ≤ 1000000), Nat.le_trans hl.len (by decide)⟩
theorem ToksGood.below {w w' : World} {A : Option Addr} {L : List Tok} {s : ByteArray} (h : ToksGood s w A L) (hb : Below w.heap.size w w') : ToksGood s w' A L :=
 ⟨h.read.below hb, fun i t ht => (h.flat i t ht).below hb, h.text, h.len⟩
theorem ToksGood.first {w : World} {A : Option Addr} {L : List Tok} {s : ByteArray} (h : ToksGood s w A L) (n : Nat) : ToksGood s w A (L.take n) :=
 ⟨fun h0 => by
  obtain ⟨b, off, hA, hall⟩ := h.read (by rw [List.length_take] at h0; omega)
  exact ⟨b, off, hA, fun j t ht => hall j t (by
   rw [List.getElem?_take] at ht
   split at ht
   ·exact ht
   ·cases ht)⟩,
  fun i t ht => h.flat i t (by
   rw [List.getElem?_take] at ht
   split at ht
   ·exact ht
   ·cases ht),
  fun i t ht => h.text i t (by
   rw [List.getElem?_take] at ht
   split at ht
   ·exact ht
   ·cases ht),
  by have := h.len; rw [List.length_take]; omega⟩
theorem below_al {B W : World} (h : Below B.heap.size B W) (o : Obj) : Below B.heap.size B (W.alloc o) := h.alloc h.size o
theorem below_dr {B W : World} (h : Below B.heap.size B W) : Below B.heap.size B W.drew := h.drew
theorem after_new {W w' : World} {o : Obj} (h : Below (W.alloc o).heap.size (W.alloc o) w') : w'.heap[W.heap.size]? = some o := blk_below (blk_new W o) h (by simp)
theorem after_old {W w' : World} {o o2 : Obj} (h : Below ((W.alloc o).alloc o2).heap.size ((W.alloc o).alloc o2) w') : w'.heap[W.heap.size]? = some o := blk_below (blk_alloc (blk_new W o) o2) h (by simp; omega)
theorem after_new2 {W w' : World} {o o2 : Obj} (h : Below ((W.alloc o).alloc o2).heap.size ((W.alloc o).alloc o2) w') : w'.heap[W.heap.size + 1]? = some o2 := by
 have := blk_below (blk_new (W.alloc o) o2) h (by simp)
 rwa [show (W.alloc o).heap.size = W.heap.size + 1 by simp] at this
theorem after_keep0 {W w' : World} {o : Obj} {b : Nat} (F : W.heap[b]? = some o) (h : Below W.heap.size W w') : w'.heap[b]? = some o := blk_below F h (blk_lt F)
theorem after_keep1 {W w' : World} {o p : Obj} {b : Nat} (F : W.heap[b]? = some o) (h : Below (W.alloc p).heap.size (W.alloc p) w') : w'.heap[b]? = some o := after_keep0 (blk_alloc F p) h
theorem after_keep2 {W w' : World} {o p q : Obj} {b : Nat} (F : W.heap[b]? = some o) (h : Below ((W.alloc p).alloc q).heap.size ((W.alloc p).alloc q) w') : w'.heap[b]? = some o := after_keep0 (blk_alloc (blk_alloc F p) q) h
theorem new_at1 (W : World) (o o2 : Obj) : ((W.alloc o).alloc o2).heap[W.heap.size + 1]? = some o2 := by
 have := blk_new (W.alloc o) o2
 rwa [show (W.alloc o).heap.size = W.heap.size + 1 by simp] at this
theorem seven_keep {W : World} {b g : Nat} {o : Obj} (h : W.heap[b]? = some o) (hne : b ≠ g) (a0 a1 a2 a3 a4 a5 a6 : Value) : (((((((W.setCell ⟨g, 0, none⟩ a0).setCell ⟨g, 1, none⟩ a1).setCell ⟨g, 2, none⟩ a2).setCell ⟨g, 3, none⟩ a3).setCell ⟨g, 4, none⟩ a4).setCell ⟨g, 5, none⟩ a5).setCell ⟨g, 6, none⟩ a6).heap[b]? = some o :=
 (seven_heap W g b hne a0 a1 a2 a3 a4 a5 a6).trans h
theorem seven_new (W : World) (g : Nat) (o : Obj) (a0 a1 a2 a3 a4 a5 a6 : Value) : ((((((((W.setCell ⟨g, 0, none⟩ a0).setCell ⟨g, 1, none⟩ a1).setCell ⟨g, 2, none⟩ a2).setCell ⟨g, 3, none⟩ a3).setCell ⟨g, 4, none⟩ a4).setCell ⟨g, 5, none⟩ a5).setCell ⟨g, 6, none⟩ a6).alloc o).heap[W.heap.size]? = some o := by
 have := blk_new (((((((W.setCell ⟨g, 0, none⟩ a0).setCell ⟨g, 1, none⟩ a1).setCell ⟨g, 2, none⟩ a2).setCell ⟨g, 3, none⟩ a3).setCell ⟨g, 4, none⟩ a4).setCell ⟨g, 5, none⟩ a5).setCell ⟨g, 6, none⟩ a6) o
 rwa [show (((((((W.setCell ⟨g, 0, none⟩ a0).setCell ⟨g, 1, none⟩ a1).setCell ⟨g, 2, none⟩ a2).setCell ⟨g, 3, none⟩ a3).setCell ⟨g, 4, none⟩ a4).setCell ⟨g, 5, none⟩ a5).setCell ⟨g, 6, none⟩ a6).heap.size = W.heap.size by simp [World.setCell]] at this
def AplFrom (B W : World) (e : Ending) (w' : World) : Prop := Below B.heap.size B w' ∧ Below W.heap.size W w' ∧ ∃ (vA aA bA : Option Addr) (vc ac bc : Nat), (∀ lA lc L en, e = .returned (aplE vA vc aA ac bA bc lA lc L en).gramV) ∧ StrsAt w' vA aplV ∧ StrsAt w' aA aplA ∧ StrsAt w' bA aplB
theorem apl_from (B W : World) (h : Below B.heap.size B W) : Calls Try.prog 13 #[] W (AplFrom B W) := by
 refine (apl_any W).mono ?_
 rintro e w' ⟨h1, h2⟩
 exact ⟨below_then h h.size h1, h1, h2⟩
def SayFrom (v : Value) (B W : World) (e : Ending) (w' : World) : Prop := e = .returned v ∧ Below B.heap.size B w' ∧ Below W.heap.size W w'
theorem bad_from (B W4 W : World) (vA aA bA lA : Option Addr) (vc ac bc lc : Nat) (L : List Tok) (l0 l1 l2 l3 : Lt) (a0 a1 a2 a3 : Int) (hL : L = [⟨1, ⟨#[]⟩, l0, a0⟩, ⟨4, ⟨#[43]⟩, l1, a1⟩, ⟨4, ⟨#[226, 141, 179]⟩, l2, a2⟩, ⟨1, ⟨#[]⟩, l3, a3⟩]) (hv : StrsAt W4 vA aplV) (ha : StrsAt W4 aA aplA) (hb : StrsAt W4 bA aplB) (hg : ToksGood ⟨#[49, 43, 226, 141, 179, 51]⟩ B lA L) (h4 : Below B.heap.size B W4) (h : Below W4.heap.size W4 W) :
  Calls Try.prog 9 #[(aplE vA vc aA ac bA bc none 0 [] 0).gramV, .slice lA 2 lc, .int .i64 2] W (SayFrom (.tuple #[.agg #[.int .i64 0, .int .i64 0, .string ⟨#[]⟩, .slice none 0 0, .slice none 0 0, .slice none 0 0, .int .i64 0], .agg #[.int .i64 2, .int .i64 2, .int .i64 0]]) B W) := by
 have h2 := below_then h4 h4.size h
 have hlen : (L.take 2).length = 2 := by rw [hL]; rfl
 have hg2 := (hg.below h2).first 2
 have hE := aplEnv (w := W) vc ac bc lc 2 (hv.below h) (ha.below h) (hb.below h) hg2 (Below.refl _ W)
 have hpc := parse_any (aplE vA vc aA ac bA bc lA lc (L.take 2) 2) W hE (fun i t ht => by have := hg2.text i t ht; have : (⟨#[49, 43, 226, 141, 179, 51]⟩ : ByteArray).size = 6 := rfl; omega)
 rw [show (aplE vA vc aA ac bA bc lA lc (L.take 2) 2).L.length = 2 from hlen] at hpc
 refine Calls.mono (P := Try.prog) (f := 9) (args := #[(aplE vA vc aA ac bA bc lA lc (L.take 2) 2).gramV, .slice lA 2 lc, .int .i64 2]) hpc ?_
 rintro e w3 ⟨hb3, hcase⟩
 have hB := below_then h2 h2.size hb3
 have hbd := works_bad vA aA bA lA vc ac bc lc l0 l1 a0 a1 2
 rw [show [(⟨1, ⟨#[]⟩, l0, a0⟩ : Tok), ⟨4, ⟨#[43]⟩, l1, a1⟩] = L.take 2 by rw [hL]; rfl] at hbd
 rcases hcase with ⟨er, ix, hbad, rfl⟩ | ⟨v, k, j, hgood, -⟩
 ·rw [hbd] at hbad
  simp only [Res.bad.injEq] at hbad
  obtain ⟨rfl, rfl⟩ := hbad
  refine ⟨?_, hB, hb3⟩
  have : (aplE vA vc aA ac bA bc lA lc (L.take 2) 2).here 2 = 2 := by
   rw [hL]
   rfl
  rw [this]
  rfl
 ·rw [hbd] at hgood
  cases hgood
set_option maxRecDepth 100000 in
set_option maxHeartbeats 8000000 in
theorem works_any (w : World) : Calls Try.prog 8 #[] w (WorksTo w) := by
 go_enter Try.func8, Try.ntmps8
 go_wp2_with fail
 refine (lex12_any ⟨#[49, 43, 226, 141, 179, 51]⟩ w).mono ?_
 rintro e w1 ⟨hb1, lA, lc, L, er, at_, rfl, hg, hc1, hc2, hM⟩
 have hg := hg.good
 obtain ⟨her, hL⟩ := hM _ lex_works
 subst her
 obtain ⟨l0, l1, l2, l3, a0, a1, a2, a3, hLL⟩ := kx_four hL
 have hn : L.length = 4 := by rw [hLL]; rfl
 rw [hn] at hc1 ⊢
 have HB1 := Lib.hid hb1
 have HG := Lib.hid hg
 have HLL := Lib.hid hLL
 have HN := Lib.hid hn
 clear hM hL hLL hg hb1 hn
 unfold faultV
 go_wp2_with fail
 refine (apl_any _).mono ?_
 rintro e w2 ⟨hb2, vA, aA, bA, vc, ac, bc, he, hv, ha, hb⟩
 obtain rfl := he none 0 [] 0
 have hb12 := ((Below.refl _ w1).alloc (Nat.le_refl _) (.cells #[.int .i64 0, .int .i64 at_, .int .i64 0] 28)).trans (hb2.mono (by simp))
 have HAE := Lib.hid (show EnvAt w2 (aplE vA vc aA ac bA bc lA lc L 9) from aplEnv vc ac bc lc 9 hv ha hb (HG.out.below hb12) (Below.refl _ w2))
 have hok := works_ok vA aA bA lA vc ac bc lc l0 l1 l2 l3 a0 a1 a2 a3 9
 rw [← HLL.out] at hok
 have HOK := Lib.hid hok
 have HB2 := Lib.hid (below_then HB1.out HB1.out.size hb12)
 have HG2 := Lib.hid (HG.out.below hb12)
 have hs12 := hb12.size
 clear hok hv ha hb he hb12 hb2 HB1 HG
 have hpc := parse_any (aplE vA vc aA ac bA bc lA lc L 9) w2 HAE.out (fun i t ht => by have := HG2.out.text i t ht; have : (⟨#[49, 43, 226, 141, 179, 51]⟩ : ByteArray).size = 6 := rfl; omega)
 rw [show (aplE vA vc aA ac bA bc lA lc L 9).L.length = 4 from HN.out] at hpc
 obtain ⟨GV, hGV⟩ : ∃ GV, (aplE vA vc aA ac bA bc none 0 [] 0).gramV = GV := ⟨_, rfl⟩
 have hpc2 : Calls Try.prog 9 #[GV, .slice lA 4 lc, .int .i64 9] w2 (ParseTo (aplE vA vc aA ac bA bc lA lc L 9) w2) := by rw [← hGV]; exact hpc
 have HPC := Lib.hid hpc2
 rw [hGV]
 clear hpc hpc2 hGV
 go_wp2_with fail
 refine HPC.out.mono ?_
 rintro e w3 ⟨hb3, hcase⟩
 rcases hcase with ⟨er, ix, hbad, -⟩ | ⟨v, k, j, hgood, rfl, hnd, -, -, -⟩
 ·rw [HOK.out] at hbad
  cases hbad
 rw [HOK.out] at hgood
 simp only [Res.ok.injEq] at hgood
 obtain ⟨hk, -⟩ := hgood
 subst hk
 obtain ⟨o, l, kA, kc, ka, kvs, rfl, -, hkc, hrow, hkids⟩ := hnd.form
 obtain ⟨kb, o2, lx, B2, c2, a2', hkA, hkb, -, hkcell, -⟩ := kid_cells hrow hkids (Below.refl _ w3) (i := 2) (k := .mk 5 0 ⟨#[]⟩ Lt.zero [.mk 21 0 ⟨#[226, 141, 179]⟩ Lt.zero [] a2, .mk 1 0 ⟨#[]⟩ l3 [] a3] a2) rfl
 subst hkA
 simp only [Nd.kids, List.length_cons, List.length_nil, Nd.kind, Nd.name] at hkc hkcell ⊢
 have HKC := Lib.hid hkcell
 have HB3 := Lib.hid (below_then HB2.out HB2.out.size hb3)
 have HG3 := Lib.hid (HG2.out.below hb3)
 clear hkcell hrow hkids hnd HB2 HG2 HOK HPC HAE
 unfold faultV
 go_upto_region 3 with fail
 obtain ⟨W3, hW3⟩ : ∃ W3, (w3.alloc (.cells #[.int .i64 6, .int .i64 o, .string ⟨#[]⟩, .slice l.sA l.sn l.sc, .slice l.cA l.cn l.cc, .slice (some ⟨kb, 0, none⟩) 3 kc, .int .i64 ka] 39)).alloc (.cells #[.int .i64 0, .int .i64 0, .int .i64 0] 28) = W3 := ⟨_, rfl⟩
 obtain ⟨T7, hT7⟩ : ∃ T7, Value.tuple #[.slice lA 4 lc, .agg #[.int .i64 0, .int .i64 at_, .int .i64 0]] = T7 := ⟨_, rfl⟩
 obtain ⟨T8, hT8⟩ : ∃ T8, Value.tuple #[.agg #[.int .i64 6, .int .i64 o, .string ⟨#[]⟩, .slice l.sA l.sn l.sc, .slice l.cA l.cn l.cc, .slice (some ⟨kb, 0, none⟩) 3 kc, .int .i64 ka], .agg #[.int .i64 0, .int .i64 0, .int .i64 0]] = T8 := ⟨_, rfl⟩
 obtain ⟨T9, hT9⟩ : ∃ T9, Value.agg #[.int .i64 6, .int .i64 o, .string ⟨#[]⟩, .slice l.sA l.sn l.sc, .slice l.cA l.cn l.cc, .slice (some ⟨kb, 0, none⟩) 3 kc, .int .i64 ka] = T9 := ⟨_, rfl⟩
 rw [hW3, hT7, hT8, hT9]
 have hbW : Below w3.heap.size w3 W3 := by rw [← hW3]; exact below_al (below_al (Below.refl _ w3) _) _
 have HGW := Lib.hid (HG3.out.below hbW)
 have HBW := Lib.hid (below_then HB3.out HB3.out.size hbW)
 have HN3 := Lib.hid (show W3.heap[w3.heap.size]? = some (.cells #[.int .i64 6, .int .i64 o, .string ⟨#[]⟩, .slice l.sA l.sn l.sc, .slice l.cA l.cn l.cc, .slice (some ⟨kb, 0, none⟩) 3 kc, .int .i64 ka] 39 (0, 0)) by rw [← hW3]; exact blk_alloc (blk_new w3 _) _)
 have HF3 := Lib.hid (show W3.heap[w3.heap.size + 1]? = some (.cells #[.int .i64 0, .int .i64 0, .int .i64 0] 28 (0, 0)) by
  rw [← hW3]
  have := blk_new (w3.alloc (.cells #[.int .i64 6, .int .i64 o, .string ⟨#[]⟩, .slice l.sA l.sn l.sc, .slice l.cA l.cn l.cc, .slice (some ⟨kb, 0, none⟩) 3 kc, .int .i64 ka] 39)) (.cells #[.int .i64 0, .int .i64 0, .int .i64 0] 28)
  simpa using this)
 have HK3 := Lib.hid (cell_below hbW HKC.out)
 clear hbW hW3 hT7 hT8 hT9 HKC HG3 HB3
 have HAPL := Lib.hid (apl_from W3)
 have hlc2 : (2 : Int) ≤ (lc : Int) := by omega
 go_cut [5, 6] (fun _ s6 wx => ∃ b6 : Nat, s6 = .pointer (some ⟨b6, 0, none⟩) ∧ Below W3.heap.size W3 wx ∧ wx.heap[b6]? = some (.cells #[.int .i64 2, .int .i64 2, .int .i64 0] 28 (0, 0)))
 case first =>
  clear hkb
  go_region_with (first | (go_at_call 13; refine (HAPL.out _ ?_).mono ?_; (first | (exact below_dr (Below.refl _ _)) | (exact below_al (below_dr (Below.refl _ _)) _) | (exact below_al (below_al (below_dr (Below.refl _ _)) _) _)); rintro e w4 ⟨hb4, hbb, vA, aA, bA, vc, ac, bc, he, hv, ha, hb⟩; obtain rfl := he none 0 [] 0; (first | (have FN := Lib.hid (show w4.heap[W3.heap.size]? = some (.cells #[.int .i64 0, .int .i64 0, .string ⟨#[]⟩, .slice none 0 0, .slice none 0 0, .slice none 0 0, .int .i64 0] 39) from after_new (W := W3.drew) (o := (.cells #[.int .i64 0, .int .i64 0, .string ⟨#[]⟩, .slice none 0 0, .slice none 0 0, .slice none 0 0, .int .i64 0] 39)) hbb)) | (have FN := Lib.hid (show w4.heap[W3.heap.size]? = some (.cells #[.int .i64 0, .int .i64 0, .string ⟨#[]⟩, .slice none 0 0, .slice none 0 0, .slice none 0 0, .int .i64 0] 39) from after_old (W := W3.drew) (o := (.cells #[.int .i64 0, .int .i64 0, .string ⟨#[]⟩, .slice none 0 0, .slice none 0 0, .slice none 0 0, .int .i64 0] 39)) (o2 := (.cells #[.int .i64 0, .int .i64 0, .int .i64 0] 28)) hbb)) | (have FN := Lib.hid (show w4.heap[W3.heap.size + 1]? = some (.cells #[.int .i64 0, .int .i64 0, .string ⟨#[]⟩, .slice none 0 0, .slice none 0 0, .slice none 0 0, .int .i64 0] 39) from after_new2 (W := W3.drew) (o := (.cells #[.int .i64 0, .int .i64 0, .int .i64 0] 28)) (o2 := (.cells #[.int .i64 0, .int .i64 0, .string ⟨#[]⟩, .slice none 0 0, .slice none 0 0, .slice none 0 0, .int .i64 0] 39)) hbb)) | skip); (first | (have FF := Lib.hid (show w4.heap[W3.heap.size]? = some (.cells #[.int .i64 0, .int .i64 0, .int .i64 0] 28) from after_new (W := W3.drew) (o := (.cells #[.int .i64 0, .int .i64 0, .int .i64 0] 28)) hbb)) | (have FF := Lib.hid (show w4.heap[W3.heap.size]? = some (.cells #[.int .i64 0, .int .i64 0, .int .i64 0] 28) from after_old (W := W3.drew) (o := (.cells #[.int .i64 0, .int .i64 0, .int .i64 0] 28)) (o2 := (.cells #[.int .i64 0, .int .i64 0, .string ⟨#[]⟩, .slice none 0 0, .slice none 0 0, .slice none 0 0, .int .i64 0] 39)) hbb)) | (have FF := Lib.hid (show w4.heap[W3.heap.size + 1]? = some (.cells #[.int .i64 0, .int .i64 0, .int .i64 0] 28) from after_new2 (W := W3.drew) (o := (.cells #[.int .i64 0, .int .i64 0, .string ⟨#[]⟩, .slice none 0 0, .slice none 0 0, .slice none 0 0, .int .i64 0] 39)) (o2 := (.cells #[.int .i64 0, .int .i64 0, .int .i64 0] 28)) hbb)) | skip); have h45 := hb4.size; (first | (have fnl := blk_lt FN.out; have fnn := Nat.ne_of_lt fnl) | skip); (first | (have ffl := blk_lt FF.out; have ffn := Nat.ne_of_lt ffl) | skip); clear hbb he; have HB4 := Lib.hid hb4; have HV4 := Lib.hid hv; have HA4 := Lib.hid ha; have HC4 := Lib.hid hb; clear hb4 hv ha hb) | (go_at_call 9; refine (bad_from W3 w4 _ vA aA bA lA vc ac bc lc L l0 l1 l2 l3 a0 a1 a2 a3 HLL.out HV4.out HA4.out HC4.out HGW.out HB4.out ?_).mono ?_; (first | (exact Below.refl _ _) | (exact below_al (Below.refl _ _) _) | (exact below_al (below_al (Below.refl _ _) _) _)); rintro e w5 ⟨he, hb5, hbb⟩; subst he; (first | (have GN := Lib.hid (after_keep0 FN.out hbb)) | (have GN := Lib.hid (after_keep1 FN.out hbb)) | (have GN := Lib.hid (after_keep2 FN.out hbb)) | (have GN := Lib.hid (after_new (W := w4) (o := (.cells #[.int .i64 0, .int .i64 0, .string ⟨#[]⟩, .slice none 0 0, .slice none 0 0, .slice none 0 0, .int .i64 0] 39)) hbb)) | (have GN := Lib.hid (after_old (W := w4) (o := (.cells #[.int .i64 0, .int .i64 0, .string ⟨#[]⟩, .slice none 0 0, .slice none 0 0, .slice none 0 0, .int .i64 0] 39)) (o2 := (.cells #[.int .i64 0, .int .i64 0, .int .i64 0] 28)) hbb)) | (have GN := Lib.hid (after_new2 (W := w4) (o := (.cells #[.int .i64 0, .int .i64 0, .int .i64 0] 28)) (o2 := (.cells #[.int .i64 0, .int .i64 0, .string ⟨#[]⟩, .slice none 0 0, .slice none 0 0, .slice none 0 0, .int .i64 0] 39)) hbb)) | skip); (first | (have GF := Lib.hid (after_keep0 FF.out hbb)) | (have GF := Lib.hid (after_keep1 FF.out hbb)) | (have GF := Lib.hid (after_keep2 FF.out hbb)) | (have GF := Lib.hid (after_new (W := w4) (o := (.cells #[.int .i64 0, .int .i64 0, .int .i64 0] 28)) hbb)) | (have GF := Lib.hid (after_old (W := w4) (o := (.cells #[.int .i64 0, .int .i64 0, .int .i64 0] 28)) (o2 := (.cells #[.int .i64 0, .int .i64 0, .string ⟨#[]⟩, .slice none 0 0, .slice none 0 0, .slice none 0 0, .int .i64 0] 39)) hbb)) | (have GF := Lib.hid (after_new2 (W := w4) (o := (.cells #[.int .i64 0, .int .i64 0, .string ⟨#[]⟩, .slice none 0 0, .slice none 0 0, .slice none 0 0, .int .i64 0] 39)) (o2 := (.cells #[.int .i64 0, .int .i64 0, .int .i64 0] 28)) hbb)) | skip); clear hbb; (first | (have cnl := blk_lt GN.out; have cn0 := blk_cell GN.out 0; have cnf0 := blk_frozen GN.out 0; have cn1 := blk_cell GN.out 1; have cnf1 := blk_frozen GN.out 1; have cn2 := blk_cell GN.out 2; have cnf2 := blk_frozen GN.out 2; have cn3 := blk_cell GN.out 3; have cnf3 := blk_frozen GN.out 3; have cn4 := blk_cell GN.out 4; have cnf4 := blk_frozen GN.out 4; have cn5 := blk_cell GN.out 5; have cnf5 := blk_frozen GN.out 5; have cn6 := blk_cell GN.out 6; have cnf6 := blk_frozen GN.out 6) | skip); (first | (have cfl := blk_lt GF.out; have cf0 := blk_cell GF.out 0; have cff0 := blk_frozen GF.out 0; have cf1 := blk_cell GF.out 1; have cff1 := blk_frozen GF.out 1; have cf2 := blk_cell GF.out 2; have cff2 := blk_frozen GF.out 2) | skip); have h55 := hb5.size; have HB5 := Lib.hid hb5; clear hb5))
  all_goals
   go_wp2_with fail
   go_meet
   refine ⟨_, rfl, ?_, ?_⟩
   ·repeat (first | with_reducible exact HB5.out | with_reducible refine below_al ?_ _ | (with_reducible refine below_set ?_ ?_ _ _; rotate_left; omega))
   ·first | with_reducible exact blk_new _ _ | with_reducible exact blk_alloc (blk_new _ _) _ | with_reducible exact new_at1 _ _ _ | with_reducible exact three_blk GF.out _ _ _ | with_reducible exact blk_alloc (three_blk GF.out _ _ _) _ | (with_reducible refine three_blk (seven_keep GF.out ?_ _ _ _ _ _ _ _) _ _ _; omega) | with_reducible exact seven_new _ _ _ _ _ _ _ _ _ _
 case rest =>
  obtain ⟨b6, rfl, hb6, hf6⟩ := hcut
  have f0 := blk_cell hf6 0
  have f1 := blk_cell hf6 1
  clear hf6
  have HB6 := Lib.hid hb6
  have n0 := blk_cell (blk_below HN3.out hb6 (blk_lt HN3.out)) 0
  have n5 := blk_cell (blk_below HN3.out hb6 (blk_lt HN3.out)) 5
  have m0 := blk_cell (blk_below HF3.out hb6 (blk_lt HF3.out)) 0
  have p0 := cell_below hb6 HK3.out
  clear hb6
  go_wp2
  refine bodyPost_ret (v := .bool true) (by simp [results, Try.results8, go_sem]) rfl ?_
  exact ⟨rfl, below_then HBW.out HBW.out.size HB6.out⟩
end Go.Proofs.Ytollglblkbjgjaa
