/- Contracts of skip and group: where a function ends. Conditions: the grammar and the words read in memory; the parser's block. -/
import Derived.Test.YtollglblkbjgjaaProg
import Derived.Test.YtollglblkbjgjaaXLib
import Derived.Test.YtollglblkbjgjaaXRow
import Derived.WalkKit
import Derived.ProofKit
import Derived.BigQuiet
import Derived.Deep.QuietTactic
import Derived.Deep.LoopGhost
import Derived.WalkSpells
import Derived.Shelf.RegionOpenPlain
import Derived.Shelf.Abstract
namespace Go.Proofs.Ytollglblkbjgjaa
open Go.RowKit

/-- a literal's two slices, with its first cell -/
structure Lt where
 sA : Option Addr
 sn : Nat
 sc : Nat
 cA : Option Addr
 cn : Nat
 cc : Nat
 c0 : Int
 n0 : Int
/-- a word -/
structure Tok where
 kind : Int
 text : ByteArray
 lit : Lt
 at_ : Int
/-- a grammar, words, and where the text ends -/
structure Env where
 vA : Option Addr
 vc : Nat
 vs : List ByteArray
 aA : Option Addr
 ac : Nat
 as_ : List ByteArray
 bA : Option Addr
 bc : Nat
 bs : List ByteArray
 outer : ByteArray
 power : ByteArray
 open_ : ByteArray
 close : ByteArray
 left : ByteArray
 right : ByteArray
 minus : ByteArray
 quote : ByteArray
 trains : Bool
 lone : Bool
 square : Bool
 lA : Option Addr
 lc : Nat
 L : List Tok
 en : Int
def StrsAt (w : World) (A : Option Addr) (l : List ByteArray) : Prop := 0 < l.length → ∃ b off, A = some ⟨b, off, none⟩ ∧ ∀ j x, l[j]? = some x → w.cell? ⟨b, off + j, none⟩ = some (.string x)
def LitRead (w : World) (t : Lt) (c n : Int) : Prop := 0 < t.cn → ∃ b off, t.cA = some ⟨b, off, none⟩ ∧ w.cell? ⟨b, off, none⟩ = some (.int .i64 c) ∧ w.cell? ⟨b, off + 1, none⟩ = some (.int .i64 n)
structure TokAt (w : World) (b o : Nat) (t : Tok) : Prop where
 k0 : w.cell? ⟨b, o, none⟩ = some (.int .i64 t.kind)
 k1 : w.cell? ⟨b, o + 1, none⟩ = some (.string t.text)
 k2 : w.cell? ⟨b, o + 2, none⟩ = some (.slice t.lit.sA t.lit.sn t.lit.sc)
 k3 : w.cell? ⟨b, o + 3, none⟩ = some (.slice t.lit.cA t.lit.cn t.lit.cc)
 k4 : w.cell? ⟨b, o + 4, none⟩ = some (.int .i64 t.at_)
 lit : LitRead w t.lit t.lit.c0 t.lit.n0
def ToksRead (w : World) (A : Option Addr) (L : List Tok) : Prop := 0 < L.length → ∃ b off, A = some ⟨b, off, none⟩ ∧ ∀ j t, L[j]? = some t → TokAt w b (off + j * 5) t
structure EnvAt (w : World) (E : Env) : Prop where
 v : StrsAt w E.vA E.vs
 a : StrsAt w E.aA E.as_
 b : StrsAt w E.bA E.bs
 l : ToksRead w E.lA E.L
 vn : E.vs.length ≤ 1000000
 an : E.as_.length ≤ 1000000
 bn : E.bs.length ≤ 1000000
 ln : E.L.length ≤ 100000
theorem StrsAt.below {w w' : World} {A : Option Addr} {l : List ByteArray} (h : StrsAt w A l) (hb : Below w.heap.size w w') : StrsAt w' A l := by
 intro h0
 obtain ⟨b, off, h1, h2⟩ := h h0
 exact ⟨b, off, h1, fun j x hx => cell_below hb (h2 j x hx)⟩
theorem LitRead.below {w w' : World} {t : Lt} {c n : Int} (h : LitRead w t c n) (hb : Below w.heap.size w w') : LitRead w' t c n := by
 intro h0
 obtain ⟨b, off, h1, h2, h3⟩ := h h0
 exact ⟨b, off, h1, cell_below hb h2, cell_below hb h3⟩
theorem TokAt.below {w w' : World} {b o : Nat} {t : Tok} (h : TokAt w b o t) (hb : Below w.heap.size w w') : TokAt w' b o t :=
 ⟨cell_below hb h.k0, cell_below hb h.k1, cell_below hb h.k2, cell_below hb h.k3, cell_below hb h.k4, h.lit.below hb⟩
theorem ToksRead.below {w w' : World} {A : Option Addr} {L : List Tok} (h : ToksRead w A L) (hb : Below w.heap.size w w') : ToksRead w' A L := by
 intro h0
 obtain ⟨b, off, h1, h2⟩ := h h0
 exact ⟨b, off, h1, fun j t ht => (h2 j t ht).below hb⟩
theorem EnvAt.below {w w' : World} {E : Env} (h : EnvAt w E) (hb : Below w.heap.size w w') : EnvAt w' E :=
 ⟨h.v.below hb, h.a.below hb, h.b.below hb, h.l.below hb, h.vn, h.an, h.bn, h.ln⟩

/-- the parser's block: grammar, words, place, end, depth, functions about -/
def pcell (E : Env) (i : Nat) (deep inn : Int) : Obj :=
 .cells #[.slice E.vA E.vs.length E.vc, .slice E.aA E.as_.length E.ac, .slice E.bA E.bs.length E.bc, .string E.outer, .string E.power, .string E.open_, .string E.close, .string E.left, .string E.right, .string E.minus, .string E.quote, .bool E.trains, .bool E.lone, .bool E.square, .slice E.lA E.L.length E.lc, .int .i64 (i : Int), .int .i64 E.en, .int .i64 deep, .int .i64 inn] 56 (0, 0)

/-- is a word so -/
def Env.is (E : Env) (i : Nat) (kind : Int) (text : ByteArray) : Bool := match E.L[i]? with
 | none => false
 | some t => t.kind == kind && (t.text.toList == text.toList && !(text.toList == []))
def hasStr (l : List ByteArray) (x : ByteArray) : Bool := l.any fun y => x.toList == y.toList
def Env.sign (E : Env) (i : Nat) (l : List ByteArray) : Bool := match E.L[i]? with
 | none => false
 | some t => t.kind == 4 && hasStr l t.text
theorem Env.is_none {E : Env} {i : Nat} (h : E.L.length ≤ i) (k : Int) (x : ByteArray) : E.is i k x = false := by
 unfold Env.is
 rw [List.getElem?_eq_none h]
theorem Env.is_some {E : Env} {i : Nat} {t : Tok} (h : E.L[i]? = some t) (k : Int) (x : ByteArray) : E.is i k x = (t.kind == k && (t.text.toList == x.toList && !(x.toList == []))) := by
 unfold Env.is
 rw [h]
theorem Env.sign_none {E : Env} {i : Nat} (h : E.L.length ≤ i) (l : List ByteArray) : E.sign i l = false := by
 unfold Env.sign
 rw [List.getElem?_eq_none h]
theorem Env.sign_some {E : Env} {i : Nat} {t : Tok} (h : E.L[i]? = some t) (l : List ByteArray) : E.sign i l = (t.kind == 4 && hasStr l t.text) := by
 unfold Env.sign
 rw [h]
/-- the word at a place, as it reads in memory -/
theorem EnvAt.tok {w : World} {E : Env} (hE : EnvAt w E) {i : Nat} (hlt : i < E.L.length) : ∃ t b off, E.L[i]? = some t ∧ E.lA = some ⟨b, off, none⟩ ∧ TokAt w b (off + i * 5) t := by
 obtain ⟨b, off, hA, hall⟩ := hE.l (by omega)
 exact ⟨_, b, off, List.getElem?_eq_getElem hlt, hA, hall i _ (List.getElem?_eq_getElem hlt)⟩

def Says (v : Value) (w : World) (e : Ending) (w' : World) : Prop := e = .returned v ∧ w' = w
set_option maxRecDepth 100000 in
set_option maxHeartbeats 2000000 in
theorem is_any (E : Env) (bp : Nat) (p : Nat) (d n : Int) (i : Nat) (kind : Int) (text : ByteArray) (w : World) (hE : EnvAt w E) (hp : w.heap[bp]? = some (pcell E p d n)) :
  Calls Try.prog 54 #[.pointer (some ⟨bp, 0, none⟩), .int .i64 (i : Int), .int .i64 kind, .string text] w (Says (.bool (E.is i kind text)) w) := by
 have c14 := blk_cell hp 14
 have hln := hE.ln
 rcases Nat.lt_or_ge i E.L.length with hlt | hge
 ·obtain ⟨t, b, off, ht, hA, hk⟩ := hE.tok hlt
  have k0 := hk.k0
  have k1 := hk.k1
  rw [Env.is_some ht]
  rw [hA] at c14
  have hi0 : (0 : Int) ≤ (i : Int) := by omega
  have hi1 : (i : Int) < (E.L.length : Int) := by omega
  have d1 : decide (i < E.L.length) = true := decide_eq_true hlt
  clear hp hE hk ht hA
  generalize t.text = x at *
  generalize t.kind = tk at *
  cases b1 : (tk == kind)
  ·go_enter Try.func54, Try.ntmps54
   go_wp2
   refine bodyPost_ret (v := .bool false) (by simp [results, Try.results54, go_sem]) rfl ?_
   exact ⟨rfl, rfl⟩
  ·cases b2 : (x.toList == text.toList)
   ·go_enter Try.func54, Try.ntmps54
    go_wp2
    refine bodyPost_ret (v := .bool false) (by simp [results, Try.results54, go_sem]) rfl ?_
    exact ⟨rfl, rfl⟩
   ·cases b3 : (text.toList == [])
    ·
     go_enter Try.func54, Try.ntmps54
     go_wp2
     refine bodyPost_ret (v := .bool true) (by simp [results, Try.results54, go_sem]) rfl ?_
     exact ⟨rfl, rfl⟩
    ·
     go_enter Try.func54, Try.ntmps54
     go_wp2
     refine bodyPost_ret (v := .bool false) (by simp [results, Try.results54, go_sem]) rfl ?_
     exact ⟨rfl, rfl⟩
 ·rw [Env.is_none hge]
  have d1 : decide (i < E.L.length) = false := decide_eq_false (by omega)
  have d2 : decide ((i : Int) < (E.L.length : Int)) = false := decide_eq_false (by omega)
  clear hp hE
  go_enter Try.func54, Try.ntmps54
  go_wp2
  refine bodyPost_ret (v := .bool false) (by simp [results, Try.results54, go_sem]) rfl ?_
  exact ⟨rfl, rfl⟩
end Go.Proofs.Ytollglblkbjgjaa
namespace Go.Proofs.Ytollglblkbjgjaa
open Go.RowKit

theorem hasStr_take (l : List ByteArray) (x : ByteArray) (k : Nat) (y : ByteArray) (hk : l[k]? = some y) (h : hasStr (l.take k) x = false) : hasStr (l.take (k + 1)) x = (x.toList == y.toList) := by
 obtain ⟨hlt, rfl⟩ := List.getElem?_eq_some_iff.1 hk
 rw [List.take_succ_eq_append_getElem hlt]
 unfold hasStr at h ⊢
 rw [List.any_append, h]
 simp
theorem hasStr_mono (l : List ByteArray) (x : ByteArray) (k : Nat) (h : hasStr (l.take k) x = true) : hasStr l x = true := by
 unfold hasStr at h ⊢
 rw [List.any_eq_true] at h ⊢
 obtain ⟨y, hy, hz⟩ := h
 exact ⟨y, List.mem_of_mem_take hy, hz⟩
def IndexTo (b : Bool) (w : World) (e : Ending) (w' : World) : Prop := ∃ r : Int, e = .returned (.int .i64 r) ∧ decide (0 ≤ r) = b ∧ w' = w
set_option maxRecDepth 100000 in
set_option maxHeartbeats 2000000 in
theorem index_any (A : Option Addr) (c : Nat) (l : List ByteArray) (x : ByteArray) (w : World) (hs : StrsAt w A l) (hn : l.length ≤ 1000000) :
  Calls Try.prog 77 #[.slice A l.length c, .string x] w (IndexTo (hasStr l x) w) := by
 obtain ⟨R, hR⟩ : ∃ R, hasStr l x = R := ⟨_, rfl⟩
 rw [hR]
 have HR := Lib.hid hR
 have HS := Lib.hid hs
 clear hR hs
 go_enter Try.func77, Try.ntmps77
 go_wp2
 go_loop [8] (fun q => ∃ k : Nat, k ≤ l.length ∧ q = .int .i64 k ∧ hasStr (l.take k) x = false) (fun q => l.length - (intOf q).toNat)
 case atStart => exact ⟨0, Nat.zero_le _, rfl, rfl⟩
 case round =>
  obtain ⟨k, hk, rfl, hno⟩ := hrel
  by_cases hlt : k < l.length
  ·obtain ⟨b, off, rfl, hall⟩ := HS.out (by omega)
   obtain ⟨y, hy⟩ : ∃ y, l[k]? = some y := ⟨_, List.getElem?_eq_getElem hlt⟩
   have ck := hall k y hy
   have hst := Lib.hid (hasStr_take l x k y hy hno)
   have hk0 : (0 : Int) ≤ (k : Int) := by omega
   have hk1 : (k : Int) < (l.length : Int) := by omega
   clear hall hy hno
   cases bq : (x.toList == y.toList)
   ·have HB := Lib.hid bq
    go_wp2
    go_round
    case rel => exact ⟨k + 1, by omega, by go_num, hst.out.trans HB.out⟩
    case measure => simp [intOf]; omega
   ·have hRt : R = true := by rw [← HR.out]; exact hasStr_mono l x (k + 1) (hst.out.trans bq)
    subst hRt
    go_wp2
    refine bodyPost_ret (v := .int .i64 (k : Int)) (by simp [results, Try.results77, go_sem]) rfl ?_
    exact ⟨_, rfl, decide_eq_true (by omega), rfl⟩
  ·obtain rfl : k = l.length := by omega
   rw [List.take_length] at hno
   have hRt : R = false := by rw [← HR.out]; exact hno
   subst hRt
   go_wp2
   refine bodyPost_ret (v := .int .i64 (-1)) (by simp [results, Try.results77, go_sem]) rfl ?_
   exact ⟨_, rfl, rfl, rfl⟩
theorem contains_any (A : Option Addr) (c : Nat) (l : List ByteArray) (x : ByteArray) (w : World) (hs : StrsAt w A l) (hn : l.length ≤ 1000000) :
  Calls Try.prog 71 #[.slice A l.length c, .string x] w (Says (.bool (hasStr l x)) w) := by
 have HI := Lib.hid (index_any A c l x w hs hn)
 clear hs
 go_enter Try.func71, Try.ntmps71
 go_wp2_with fail
 refine HI.out.mono ?_
 rintro e w' ⟨r, rfl, hr, rfl⟩
 go_wp2
 refine bodyPost_ret (v := .bool (hasStr l x)) (by simp [results, Try.results71, go_sem, ← hr]) rfl ?_
 exact ⟨rfl, rfl⟩
set_option maxRecDepth 100000 in
set_option maxHeartbeats 2000000 in
theorem sign_any (E : Env) (bp : Nat) (p : Nat) (d n : Int) (i : Nat) (A : Option Addr) (c : Nat) (l : List ByteArray) (w : World) (hE : EnvAt w E) (hp : w.heap[bp]? = some (pcell E p d n)) (hs : StrsAt w A l) (hn : l.length ≤ 1000000) :
  Calls Try.prog 55 #[.pointer (some ⟨bp, 0, none⟩), .int .i64 (i : Int), .slice A l.length c] w (Says (.bool (E.sign i l)) w) := by
 have c14 := blk_cell hp 14
 have hln := hE.ln
 rcases Nat.lt_or_ge i E.L.length with hlt | hge
 ·obtain ⟨t, b, off, ht, hA, hk⟩ := hE.tok hlt
  have k0 := hk.k0
  have k1 := hk.k1
  rw [Env.sign_some ht]
  rw [hA] at c14
  have hi0 : (0 : Int) ≤ (i : Int) := by omega
  have hi1 : (i : Int) < (E.L.length : Int) := by omega
  have d1 : decide (i < E.L.length) = true := decide_eq_true hlt
  have HC := Lib.hid (contains_any A c l t.text w hs hn)
  clear hp hE hk ht hA hs
  generalize t.text = x at *
  generalize t.kind = tk at *
  cases b1 : (tk == 4)
  ·go_enter Try.func55, Try.ntmps55
   go_wp2_with fail
   refine bodyPost_ret (v := .bool false) (by simp [results, Try.results55, go_sem]) rfl ?_
   exact ⟨rfl, rfl⟩
  ·go_enter Try.func55, Try.ntmps55
   go_wp2_with fail
   refine HC.out.mono ?_
   rintro e w' ⟨rfl, rfl⟩
   go_wp2
   refine bodyPost_ret (v := .bool (hasStr l x)) (by simp [results, Try.results55, go_sem]) rfl ?_
   exact ⟨rfl, rfl⟩
 ·rw [Env.sign_none hge]
  have d1 : decide (i < E.L.length) = false := decide_eq_false (by omega)
  have d2 : decide ((i : Int) < (E.L.length : Int)) = false := decide_eq_false (by omega)
  clear hp hE hs
  go_enter Try.func55, Try.ntmps55
  go_wp2_with fail
  refine bodyPost_ret (v := .bool false) (by simp [results, Try.results55, go_sem]) rfl ?_
  exact ⟨rfl, rfl⟩

/-- how often a number says -/
def timesOf (t : Lt) (c n : Int) : Option Int := if t.sn = 0 ∧ t.cn = 1 ∧ c = 0 ∧ 0 ≤ n ∧ n ≤ 4096 then some n else none
def optVal : Option Int → Value
 | none => .tuple #[.int .i64 0, .bool false]
 | some n => .tuple #[.int .i64 n, .bool true]
def Adds (v : Value) (w : World) (e : Ending) (w' : World) : Prop := e = .returned v ∧ Below w.heap.size w w'
set_option maxRecDepth 100000 in
set_option maxHeartbeats 2000000 in
theorem times_any (t : Lt) (c n : Int) (w : World) (h : LitRead w t c n) : Calls Try.prog 35 #[.agg #[.slice t.sA t.sn t.sc, .slice t.cA t.cn t.cc]] w (Adds (optVal (timesOf t c n)) w) := by
 obtain ⟨sA, sn, sc, cA, cn, cc, zc, zn⟩ := t
 dsimp only at h ⊢
 obtain ⟨R, hR⟩ : ∃ R, timesOf ⟨sA, sn, sc, cA, cn, cc, zc, zn⟩ c n = R := ⟨_, rfl⟩
 rw [hR]
 have HR := Lib.hid hR
 clear hR
 have fin : ∀ w' : World, w' = w.alloc (.cells #[.slice sA sn sc, .slice cA cn cc] 36) → Below w.heap.size w w' := by
  rintro w' rfl
  exact (Below.refl _ _).alloc (Nat.le_refl _) _
 by_cases h1 : sn = 0
 ·by_cases h2 : cn = 1
  ·subst h1 h2
   obtain ⟨b, off, rfl, k0, k1⟩ := h Nat.one_pos
   have hbl : b < w.heap.size := World.block_lt_of_cell? w _ k0
   by_cases h3 : c = 0
   ·by_cases h4 : 0 ≤ n
    ·by_cases h5 : n ≤ 4096
     ·have hRs : R = some n := by rw [← HR.out]; exact if_pos ⟨rfl, rfl, h3, h4, h5⟩
      subst hRs
      subst h3
      have e4 : decide (n < 0) = false := decide_eq_false (by omega)
      have e5 : decide (4096 < n) = false := decide_eq_false (by omega)
      go_enter Try.func35, Try.ntmps35
      go_wp2
      refine bodyPost_ret (v := .tuple #[.int .i64 n, .bool true]) (by simp [results, Try.results35, go_sem]) rfl ?_
      exact ⟨rfl, fin _ rfl⟩
     ·have hRs : R = none := by rw [← HR.out]; exact if_neg (fun q => h5 q.2.2.2.2)
      subst hRs
      subst h3
      have e4 : decide (n < 0) = false := decide_eq_false (by omega)
      have e5 : decide (4096 < n) = true := decide_eq_true (by omega)
      go_enter Try.func35, Try.ntmps35
      go_wp2
      refine bodyPost_ret (v := .tuple #[.int .i64 0, .bool false]) (by simp [results, Try.results35, go_sem]) rfl ?_
      exact ⟨rfl, fin _ rfl⟩
    ·have hRs : R = none := by rw [← HR.out]; exact if_neg (fun q => h4 q.2.2.2.1)
     subst hRs
     subst h3
     have e4 : decide (n < 0) = true := decide_eq_true (by omega)
     go_enter Try.func35, Try.ntmps35
     go_wp2
     refine bodyPost_ret (v := .tuple #[.int .i64 0, .bool false]) (by simp [results, Try.results35, go_sem]) rfl ?_
     exact ⟨rfl, fin _ rfl⟩
   ·have hRs : R = none := by rw [← HR.out]; exact if_neg (fun q => h3 q.2.2.1)
    subst hRs
    have e3 : (c == 0) = false := beq_eq_false_iff_ne.2 h3
    go_enter Try.func35, Try.ntmps35
    go_wp2
    refine bodyPost_ret (v := .tuple #[.int .i64 0, .bool false]) (by simp [results, Try.results35, go_sem]) rfl ?_
    exact ⟨rfl, fin _ rfl⟩
  ·have hRs : R = none := by rw [← HR.out]; exact if_neg (fun q => h2 q.2.1)
   subst hRs
   subst h1
   have e2 : (cn == 1) = false := beq_eq_false_iff_ne.2 h2
   have e2' : ((cn : Int) == 1) = false := beq_eq_false_iff_ne.2 (by omega)
   go_enter Try.func35, Try.ntmps35
   go_wp2
   refine bodyPost_ret (v := .tuple #[.int .i64 0, .bool false]) (by simp [results, Try.results35, go_sem]) rfl ?_
   exact ⟨rfl, fin _ rfl⟩
 ·have hRs : R = none := by rw [← HR.out]; exact if_neg (fun q => h1 q.1)
  subst hRs
  have e1 : decide (0 < sn) = true := decide_eq_true (by omega)
  have e1' : decide ((0 : Int) < (sn : Int)) = true := decide_eq_true (by omega)
  go_enter Try.func35, Try.ntmps35
  go_wp2
  refine bodyPost_ret (v := .tuple #[.int .i64 0, .bool false]) (by simp [results, Try.results35, go_sem]) rfl ?_
  exact ⟨rfl, fin _ rfl⟩
end Go.Proofs.Ytollglblkbjgjaa
namespace Go.Proofs.Ytollglblkbjgjaa
open Go.RowKit

theorem wraps_i64 (x : Int) (h1 : -9223372036854775808 ≤ x) (h2 : x ≤ 9223372036854775807) : IntKind.i64.wrap x = x := by
 rw [IntKind.wrap_i64]
 omega
/-- how often a word says, and that is told behind it -/
def Env.pow (E : Env) (i : Nat) : Option Int :=
 if E.is i 4 E.power then match E.L[i + 1]? with
  | none => none
  | some t => if t.kind = 1 then timesOf t.lit t.lit.c0 t.lit.n0 else none
 else none
theorem Env.is_lt {E : Env} {i : Nat} {k : Int} {x : ByteArray} (h : E.is i k x = true) : i < E.L.length := by
 rcases Nat.lt_or_ge i E.L.length with h1 | h1
 ·exact h1
 ·rw [Env.is_none h1] at h; cases h
theorem Env.sign_lt {E : Env} {i : Nat} {l : List ByteArray} (h : E.sign i l = true) : i < E.L.length := by
 rcases Nat.lt_or_ge i E.L.length with h1 | h1
 ·exact h1
 ·rw [Env.sign_none h1] at h; cases h
theorem Env.pow_lt {E : Env} {i : Nat} {n : Int} (h : E.pow i = some n) : i + 1 < E.L.length := by
 unfold Env.pow at h
 split at h
 ·split at h
  ·cases h
  ·rename_i hq
   exact (List.getElem?_eq_some_iff.1 hq).1
 ·cases h
set_option maxRecDepth 100000 in
set_option maxHeartbeats 2000000 in
theorem power_any (E : Env) (bp : Nat) (p : Nat) (d n : Int) (i : Nat) (w : World) (hE : EnvAt w E) (hp : w.heap[bp]? = some (pcell E p d n)) (hi : i ≤ 1000000) :
  Calls Try.prog 58 #[.pointer (some ⟨bp, 0, none⟩), .int .i64 (i : Int)] w (Adds (optVal (E.pow i)) w) := by
 have c14 := blk_cell hp 14
 have c4 := blk_cell hp 4
 have hln := hE.ln
 have hw1 : IntKind.i64.wrap ((i : Int) + 1) = (i : Int) + 1 := wraps_i64 _ (by omega) (by omega)
 have HI := Lib.hid (is_any E bp p d n i 4 E.power w hE hp)
 have hpow : E.pow i = (if E.is i 4 E.power then match E.L[i + 1]? with
  | none => none
  | some t => if t.kind = 1 then timesOf t.lit t.lit.c0 t.lit.n0 else none
 else none) := rfl
 obtain ⟨R, hR⟩ : ∃ R, E.pow i = R := ⟨_, rfl⟩
 rw [hR] at hpow ⊢
 clear hR
 cases b1 : E.is i 4 E.power
 ·rw [b1] at hpow HI
  subst hpow
  clear hE hp b1
  go_enter Try.func58, Try.ntmps58
  go_wp2_with fail
  refine HI.out.mono ?_
  rintro e w' ⟨rfl, rfl⟩
  go_wp2_with fail
  refine bodyPost_ret (v := .tuple #[.int .i64 0, .bool false]) (by simp [results, Try.results58, go_sem]) rfl ?_
  exact ⟨rfl, Below.refl _ _⟩
 ·rw [b1] at hpow HI
  rw [if_pos rfl] at hpow
  rcases Nat.lt_or_ge (i + 1) E.L.length with hlt | hge
  ·obtain ⟨t, b, off, ht, hA, hk⟩ := hE.tok hlt
   rw [ht] at hpow
   dsimp only at hpow
   have k0 := hk.k0
   have k2 := hk.k2
   have k3 := hk.k3
   have HL := Lib.hid hk.lit
   rw [hA] at c14
   have hi0 : (0 : Int) ≤ (i : Int) + 1 := by omega
   have hi1 : (i : Int) + 1 < (E.L.length : Int) := by omega
   have hi2 : ((i : Int) + 1).toNat = i + 1 := by omega
   have d2 : decide ((E.L.length : Int) ≤ (i : Int) + 1) = false := decide_eq_false (by omega)
   clear hp hE hk ht hA b1
   by_cases hk1 : t.kind = 1
   ·rw [if_pos hk1] at hpow
    subst hpow
    rw [hk1] at k0
    go_enter Try.func58, Try.ntmps58
    go_wp2_with fail
    refine HI.out.mono ?_
    rintro e w' ⟨rfl, rfl⟩
    go_wp2_with fail
    refine (times_any t.lit t.lit.c0 t.lit.n0 w' HL.out).mono ?_
    rintro e w2 ⟨rfl, hb⟩
    cases hq : timesOf t.lit t.lit.c0 t.lit.n0 with
    | none =>
     dsimp only [optVal]
     go_wp2
     refine bodyPost_ret (v := .tuple #[.int .i64 0, .bool false]) (by simp [results, Try.results58, go_sem]) rfl ?_
     exact ⟨by rw [hq]; rfl, hb⟩
    | some m =>
     dsimp only [optVal]
     go_wp2
     refine bodyPost_ret (v := .tuple #[.int .i64 m, .bool true]) (by simp [results, Try.results58, go_sem]) rfl ?_
     exact ⟨by rw [hq]; rfl, hb⟩
   ·rw [if_neg hk1] at hpow
    subst hpow
    have hkb : (t.kind == 1) = false := beq_eq_false_iff_ne.2 hk1
    go_enter Try.func58, Try.ntmps58
    go_wp2_with fail
    refine HI.out.mono ?_
    rintro e w' ⟨rfl, rfl⟩
    go_wp2_with fail
    refine bodyPost_ret (v := .tuple #[.int .i64 0, .bool false]) (by simp [results, Try.results58, go_sem]) rfl ?_
    exact ⟨rfl, Below.refl _ _⟩
  ·rw [List.getElem?_eq_none hge] at hpow
   dsimp only at hpow
   subst hpow
   have d2 : decide ((E.L.length : Int) ≤ (i : Int) + 1) = true := decide_eq_true (by omega)
   clear hp hE b1
   go_enter Try.func58, Try.ntmps58
   go_wp2_with fail
   refine HI.out.mono ?_
   rintro e w' ⟨rfl, rfl⟩
   go_wp2_with fail
   refine bodyPost_ret (v := .tuple #[.int .i64 0, .bool false]) (by simp [results, Try.results58, go_sem]) rfl ?_
   exact ⟨rfl, Below.refl _ _⟩

/-- where the bracket closes that is open n deep, in words from here -/
def shutL : List Tok → Int → Option Nat
 | [], _ => none
 | t :: l, n => if t.kind = 5 then (shutL l (n + 1)).map (· + 1) else if t.kind = 6 then (if n - 1 = 0 then some 0 else (shutL l (n - 1)).map (· + 1)) else (shutL l n).map (· + 1)
def Env.shut (E : Env) (i : Nat) : Option Nat := (shutL (E.L.drop i) 0).map (· + i)
def placeVal : Option Nat → Value
 | none => .int .i64 (-1)
 | some k => .int .i64 (k : Int)
theorem shut_map (o : Option Nat) (k : Nat) : (o.map (· + 1)).map (· + k) = o.map (· + (k + 1)) := by
 cases o with
 | none => rfl
 | some x => simp only [Option.map_some, Option.some.injEq]; omega
set_option maxRecDepth 100000 in
set_option maxHeartbeats 2000000 in
theorem shut_any (E : Env) (bp : Nat) (p : Nat) (d n : Int) (i : Nat) (w : World) (hE : EnvAt w E) (hp : w.heap[bp]? = some (pcell E p d n)) (hi : i ≤ E.L.length) :
  Calls Try.prog 56 #[.pointer (some ⟨bp, 0, none⟩), .int .i64 (i : Int)] w (Says (placeVal (E.shut i)) w) := by
 have c14 := blk_cell hp 14
 have hln := hE.ln
 have HE := Lib.hid hE
 obtain ⟨R, hR⟩ : ∃ R, E.shut i = R := ⟨_, rfl⟩
 rw [hR]
 have HR := Lib.hid hR
 clear hE hp hR
 go_enter Try.func56, Try.ntmps56
 go_wp2
 go_loop [5, 6] (fun m q => ∃ (k : Nat) (x : Int), i ≤ k ∧ k ≤ E.L.length ∧ q = .int .i64 k ∧ m = .int .i64 x ∧ -(k : Int) ≤ x ∧ x ≤ (k : Int) ∧ (shutL (E.L.drop k) x).map (· + k) = R) (fun _ q => E.L.length - (intOf q).toNat)
 case atStart => exact ⟨i, 0, Nat.le_refl _, hi, rfl, rfl, by omega, by omega, HR.out⟩
 case round =>
  obtain ⟨k, x, hik, hk, rfl, rfl, hx1, hx2, hM⟩ := hrel
  by_cases hlt : k < E.L.length
  ·obtain ⟨t, b, off, ht, hA, htk⟩ := HE.out.tok hlt
   have k0 := htk.k0
   rw [List.drop_eq_getElem_cons hlt, show E.L[k] = t from (List.getElem?_eq_some_iff.1 ht).2] at hM
   simp only [shutL] at hM
   rw [hA] at c14
   have hi0 : (0 : Int) ≤ (k : Int) := by omega
   have hi1 : (k : Int) < (E.L.length : Int) := by omega
   have d1 : decide (k < E.L.length) = true := decide_eq_true hlt
   clear ht hA htk
   generalize t.kind = tk at *
   by_cases h5 : tk = 5
   ·rw [if_pos h5, shut_map] at hM
    subst h5
    have HM := Lib.hid hM
    clear hM
    have hw : IntKind.i64.wrap (x + 1) = x + 1 := wraps_i64 _ (by omega) (by omega)
    go_wp2
    go_round
    case rel => exact ⟨k + 1, x + 1, by omega, by omega, by go_num, rfl, by omega, by omega, HM.out⟩
    case measure => simp [intOf]; omega
   ·rw [if_neg h5] at hM
    have b5 : (tk == 5) = false := beq_eq_false_iff_ne.2 h5
    by_cases h6 : tk = 6
    ·rw [if_pos h6] at hM
     subst h6
     have hw : IntKind.i64.wrap (x - 1) = x - 1 := wraps_i64 _ (by omega) (by omega)
     by_cases hz : x - 1 = 0
     ·rw [if_pos hz] at hM
      obtain rfl : x = 1 := by omega
      subst hM
      clear h5
      go_wp2
      refine bodyPost_ret (v := .int .i64 (k : Int)) (by simp [results, Try.results56, go_sem]) rfl ?_
      exact ⟨by simp [placeVal], rfl⟩
     ·rw [if_neg hz, shut_map] at hM
      have HM := Lib.hid hM
      have bz : (x - 1 == 0) = false := beq_eq_false_iff_ne.2 hz
      clear hM hz h5
      go_wp2
      go_round
      case rel => exact ⟨k + 1, x - 1, by omega, by omega, by go_num, rfl, by omega, by omega, HM.out⟩
      case measure => simp [intOf]; omega
    ·rw [if_neg h6, shut_map] at hM
     have b6 : (tk == 6) = false := beq_eq_false_iff_ne.2 h6
     have HM := Lib.hid hM
     clear hM h5 h6
     go_wp2
     go_round
     case rel => exact ⟨k + 1, x, by omega, by omega, by go_num, rfl, by omega, by omega, HM.out⟩
     case measure => simp [intOf]; omega
  ·obtain rfl : k = E.L.length := by omega
   rw [List.drop_length] at hM
   have hRn : R = none := hM.symm
   subst hRn
   clear hM
   go_wp2
   refine bodyPost_ret (v := .int .i64 (-1)) (by simp [results, Try.results56, go_sem]) rfl ?_
   exact ⟨rfl, rfl⟩
end Go.Proofs.Ytollglblkbjgjaa
namespace Go.Proofs.Ytollglblkbjgjaa
open Go.RowKit

/-- behind signs that stand behind a function -/
def Env.tail (E : Env) : Nat → Nat → Nat
 | 0, i => i
 | f + 1, i => if E.sign i E.as_ then E.tail f (i + 1) else match E.pow i with
  | some _ => E.tail f (i + 2)
  | none => i
def Env.grpG (E : Env) (sk : Nat → Bool → Option Nat) : Nat → Nat → Bool → Nat → Option Nat
 | 0, _, _, _ => none
 | g + 1, i, b, n => if E.is i 6 ⟨#[41]⟩ then (if n = 1 ∨ E.trains = true ∧ (n = 2 ∨ n = 3) then some (i + 1) else none) else match sk i b with
  | none => none
  | some j => E.grpG sk g j b (n + 1)
def Env.headG (E : Env) (grp : Nat → Bool → Option Nat) (i : Nat) (b : Bool) : Option Nat :=
 if (E.sign i E.vs || (b && E.sign i E.bs)) = true then some (i + 1)
 else if E.is i 5 E.open_ = true then (E.shut i).map (· + 1)
 else if E.is i 5 ⟨#[40]⟩ = true then grp i b else none
/-- where the function ends that begins at a word -/
def Env.skipF (E : Env) : Nat → Nat → Bool → Option Nat
 | 0, _, _ => none
 | f + 1, i, b => (E.headG (fun i b => E.grpG (E.skipF f) (E.L.length + 1) (i + 1) b 0) (if E.is i 4 E.outer then i + 1 else i) (b && !E.is i 4 E.outer)).map (E.tail (E.L.length + 1))

theorem Env.tail_ge (E : Env) : ∀ (f i : Nat), i ≤ E.L.length → i ≤ E.tail f i ∧ E.tail f i ≤ E.L.length
 | 0, i, h => ⟨Nat.le_refl _, h⟩
 | f + 1, i, h => by
  simp only [Env.tail]
  split
  ·rename_i hs
   have := Env.sign_lt hs
   have := E.tail_ge f (i + 1) (by omega)
   omega
  ·split
   ·rename_i hp
    have := Env.pow_lt hp
    have := E.tail_ge f (i + 2) (by omega)
    omega
   ·omega
theorem Env.shutL_lt : ∀ (l : List Tok) (n : Int) (k : Nat), shutL l n = some k → k < l.length
 | [], _, _, h => by cases h
 | t :: l, n, k, h => by
  simp only [shutL] at h
  split at h
  ·obtain ⟨j, hj, rfl⟩ := Option.map_eq_some_iff.1 h
   have := shutL_lt l _ j hj
   simp; omega
  ·split at h
   ·split at h
    ·cases h; simp
    ·obtain ⟨j, hj, rfl⟩ := Option.map_eq_some_iff.1 h
     have := shutL_lt l _ j hj
     simp; omega
   ·obtain ⟨j, hj, rfl⟩ := Option.map_eq_some_iff.1 h
    have := shutL_lt l _ j hj
    simp; omega
theorem Env.shut_lt {E : Env} {i k : Nat} (h : E.shut i = some k) : i ≤ k ∧ k < E.L.length := by
 obtain ⟨j, hj, rfl⟩ := Option.map_eq_some_iff.1 h
 have := shutL_lt _ _ _ hj
 rw [List.length_drop] at this
 omega
theorem Env.grp_lt {E : Env} {sk : Nat → Bool → Option Nat} (hsk : ∀ i b j, sk i b = some j → i < j ∧ j ≤ E.L.length) : ∀ (g i : Nat) (b : Bool) (n j : Nat), E.grpG sk g i b n = some j → i < j ∧ j ≤ E.L.length
 | 0, _, _, _, _, h => by cases h
 | g + 1, i, b, n, j, h => by
  simp only [Env.grpG] at h
  split at h
  ·rename_i hc
   have := Env.is_lt hc
   split at h
   ·cases h; omega
   ·cases h
  ·split at h
   ·cases h
   ·rename_i k hk
    have h1 := hsk _ _ _ hk
    have h2 := grp_lt hsk g k b (n + 1) j h
    omega
theorem Env.head_lt {E : Env} {grp : Nat → Bool → Option Nat} (hg : ∀ i b j, grp i b = some j → i < j ∧ j ≤ E.L.length) {i : Nat} {b : Bool} {j : Nat} (h : E.headG grp i b = some j) : i < j ∧ j ≤ E.L.length := by
 unfold Env.headG at h
 split at h
 ·rename_i hc
  cases h
  have : i < E.L.length := by
   rcases Bool.or_eq_true _ _ ▸ hc with h1 | h1
   ·exact Env.sign_lt h1
   ·exact Env.sign_lt (Bool.and_eq_true _ _ ▸ h1).2
  omega
 ·split at h
  ·obtain ⟨k, hk, rfl⟩ := Option.map_eq_some_iff.1 h
   have := Env.shut_lt hk
   omega
  ·split at h
   ·exact hg _ _ _ h
   ·cases h
theorem Env.skip_lt (E : Env) : ∀ (f i : Nat) (b : Bool) (j : Nat), E.skipF f i b = some j → i < j ∧ j ≤ E.L.length
 | 0, _, _, _, h => by cases h
 | f + 1, i, b, j, h => by
  simp only [Env.skipF] at h
  obtain ⟨k, hk, rfl⟩ := Option.map_eq_some_iff.1 h
  have h1 := Env.head_lt (fun i b j hj => by
   have := Env.grp_lt (E.skip_lt f) _ _ _ _ _ hj
   exact ⟨by omega, this.2⟩) hk
  have h2 := E.tail_ge (E.L.length + 1) k h1.2
  split at h1 <;> omega


set_option maxRecDepth 100000 in
set_option maxHeartbeats 4000000 in
theorem group_any (E : Env) (bp : Nat) (p : Nat) (d n : Int) (b : Bool) (sk : Nat → Bool → Option Nat) (i : Nat) (hi : i < E.L.length)
  (hsk : ∀ (k : Nat) (w : World), i + 1 ≤ k → k ≤ E.L.length → EnvAt w E → w.heap[bp]? = some (pcell E p d n) → Calls Try.prog 32 #[.pointer (some ⟨bp, 0, none⟩), .int .i64 (k : Int), .bool b] w (Adds (placeVal (sk k b)) w))
  (hlt : ∀ i b j, sk i b = some j → i < j ∧ j ≤ E.L.length) (w : World) (hE : EnvAt w E) (hp : w.heap[bp]? = some (pcell E p d n)) :
  Calls Try.prog 57 #[.pointer (some ⟨bp, 0, none⟩), .int .i64 (i : Int), .bool b] w (Adds (placeVal (E.grpG sk (E.L.length + 1) (i + 1) b 0)) w) := by
 have hln := hE.ln
 obtain ⟨R, hR⟩ : ∃ R, E.grpG sk (E.L.length + 1) (i + 1) b 0 = R := ⟨_, rfl⟩
 rw [hR]
 have HR := Lib.hid hR
 have HE := Lib.hid hE
 have HP := Lib.hid hp
 have HSK := Lib.hid hsk
 have HLT := Lib.hid hlt
 have hw1 : IntKind.i64.wrap ((i : Int) + 1) = (i : Int) + 1 := wraps_i64 _ (by omega) (by omega)
 clear hE hp hR hsk hlt
 go_enter Try.func57, Try.ntmps57
 go_wp2
 go_loopg [1, 7] (E.L.length + 1) (fun f ti tn wr => ∃ k m : Nat, ti = .int .i64 k ∧ tn = .int .i64 m ∧ i + 1 ≤ k ∧ k ≤ E.L.length ∧ m ≤ k ∧ E.L.length + 1 ≤ k + f ∧ Below w.heap.size w wr ∧ E.grpG sk f k b m = R)
 case atStart => exact ⟨i + 1, 0, by go_num, rfl, Nat.le_refl _, by omega, by omega, by omega, Below.refl _ _, HR.out⟩
 case round =>
  obtain ⟨k, m, rfl, rfl, hik, hk, hmk, hf, hb, hM⟩ := hrel
  obtain ⟨f, rfl⟩ : ∃ f, gk = f + 1 := ⟨gk - 1, by omega⟩
  have HB := Lib.hid hb
  have HE1 := Lib.hid (HE.out.below hb)
  have hp1 := blk_below HP.out hb (blk_lt HP.out)
  have HP1 := Lib.hid hp1
  have c11 := blk_cell hp1 11
  simp only [Env.grpG] at hM
  have HI := Lib.hid (is_any E bp p d n k 6 ⟨#[41]⟩ wr HE1.out hp1)
  clear hb hp1
  cases bi : E.is k 6 ⟨#[41]⟩
  ·rw [bi, if_neg Bool.false_ne_true] at hM
   rw [bi] at HI
   have HS := Lib.hid (HSK.out k wr hik hk HE1.out HP1.out)
   clear bi
   cases hs : sk k b with
   | none =>
    rw [hs] at hM HS
    dsimp only [placeVal] at hM HS
    subst hM
    go_wp2_with fail
    refine HI.out.mono ?_
    rintro e w2 ⟨rfl, rfl⟩
    go_wp2_with fail
    refine HS.out.mono ?_
    rintro e w3 ⟨rfl, hb3⟩
    go_wp2
    refine bodyPost_ret (v := .int .i64 (-1)) (by simp [results, Try.results57, go_sem]) rfl ?_
    exact ⟨rfl, below_then HB.out HB.out.size hb3⟩
   | some j =>
    rw [hs] at hM HS
    dsimp only [placeVal] at hM HS
    have hj := HLT.out k b j hs
    have HM := Lib.hid hM
    have hw2 : IntKind.i64.wrap ((m : Int) + 1) = (m : Int) + 1 := wraps_i64 _ (by omega) (by omega)
    have dj : decide ((j : Int) < 0) = false := decide_eq_false (by omega)
    clear hM hs
    go_wp2_with fail
    refine HI.out.mono ?_
    rintro e w2 ⟨rfl, rfl⟩
    go_wp2_with fail
    refine HS.out.mono ?_
    rintro e w3 ⟨rfl, hb3⟩
    go_wp2
    go_roundg f
    case rel => exact ⟨j, m + 1, rfl, by go_num, by omega, hj.2, by omega, by omega, below_then HB.out HB.out.size hb3, HM.out⟩
    case measure => exact Nat.lt_succ_self f
  ·rw [bi, if_pos rfl] at hM
   rw [bi] at HI
   have hkl := Env.is_lt bi
   have hw2 : IntKind.i64.wrap ((k : Int) + 1) = (k : Int) + 1 := wraps_i64 _ (by omega) (by omega)
   clear bi
   by_cases hm1 : m = 1
   ·rw [if_pos (.inl hm1)] at hM
    subst hM
    subst hm1
    go_wp2_with fail
    refine HI.out.mono ?_
    rintro e w2 ⟨rfl, rfl⟩
    go_wp2
    refine bodyPost_ret (v := .int .i64 ((k : Int) + 1)) (by simp [results, Try.results57, go_sem]) rfl ?_
    exact ⟨by simp [placeVal], HB.out⟩
   ·have b1 : ((m : Int) == 1) = false := beq_eq_false_iff_ne.2 (by omega)
    cases ht : E.trains
    ·rw [if_neg (by rw [ht]; intro h; rcases h with h | h; exact hm1 h; cases h.1)] at hM
     subst hM
     rw [ht] at c11
     go_wp2_with fail
     refine HI.out.mono ?_
     rintro e w2 ⟨rfl, rfl⟩
     go_wp2
     refine bodyPost_ret (v := .int .i64 (-1)) (by simp [results, Try.results57, go_sem]) rfl ?_
     exact ⟨rfl, HB.out⟩
    ·rw [ht] at c11 hM
     by_cases hm2 : m = 2
     ·rw [if_pos (.inr ⟨rfl, .inl hm2⟩)] at hM
      subst hM
      subst hm2
      go_wp2_with fail
      refine HI.out.mono ?_
      rintro e w2 ⟨rfl, rfl⟩
      go_wp2
      refine bodyPost_ret (v := .int .i64 ((k : Int) + 1)) (by simp [results, Try.results57, go_sem]) rfl ?_
      exact ⟨by simp [placeVal], HB.out⟩
     ·have b2 : ((m : Int) == 2) = false := beq_eq_false_iff_ne.2 (by omega)
      by_cases hm3 : m = 3
      ·rw [if_pos (.inr ⟨rfl, .inr hm3⟩)] at hM
       subst hM
       subst hm3
       go_wp2_with fail
       refine HI.out.mono ?_
       rintro e w2 ⟨rfl, rfl⟩
       go_wp2
       refine bodyPost_ret (v := .int .i64 ((k : Int) + 1)) (by simp [results, Try.results57, go_sem]) rfl ?_
       exact ⟨by simp [placeVal], HB.out⟩
      ·have b3 : ((m : Int) == 3) = false := beq_eq_false_iff_ne.2 (by omega)
       rw [if_neg (by intro h; rcases h with h | h; exact hm1 h; rcases h.2 with h | h; exact hm2 h; exact hm3 h)] at hM
       subst hM
       go_wp2_with fail
       refine HI.out.mono ?_
       rintro e w2 ⟨rfl, rfl⟩
       go_wp2
       refine bodyPost_ret (v := .int .i64 (-1)) (by simp [results, Try.results57, go_sem]) rfl ?_
       exact ⟨rfl, HB.out⟩
end Go.Proofs.Ytollglblkbjgjaa
