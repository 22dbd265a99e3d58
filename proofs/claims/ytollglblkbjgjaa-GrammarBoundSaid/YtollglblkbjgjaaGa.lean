/- The grammar and the words as they lie in memory, the parser's block, and contracts of what reads a word. Conditions: what is read lies so. -/
import Derived.Test.YtollglblkbjgjaaProg
import Derived.Test.YtollglblkbjgjaaXLib
import Derived.Test.YtollglblkbjgjaaXRow
import Derived.WalkKit
import Derived.ProofKit
import Derived.BigQuiet
import Derived.Deep.QuietTactic
import Derived.Deep.LoopGhost
import Derived.WalkSpells
import Derived.Shelf.RegionOpenPlain
import Derived.Shelf.Abstract
namespace Go.Proofs.Ytollglblkbjgjaa
open Go.RowKit

/-- a literal's two slices, with its first cell -/
structure Lt where
  sA : Option Addr
  sn : Nat
  sc : Nat
  cA : Option Addr
  cn : Nat
  cc : Nat
  c0 : Int
  n0 : Int
/-- a word -/
structure Tok where
  kind : Int
  text : ByteArray
  lit : Lt
  at_ : Int
/-- a grammar, words, and where the text ends -/
structure Env where
  vA : Option Addr
  vc : Nat
  vs : List ByteArray
  aA : Option Addr
  ac : Nat
  as_ : List ByteArray
  bA : Option Addr
  bc : Nat
  bs : List ByteArray
  outer : ByteArray
  power : ByteArray
  open_ : ByteArray
  close : ByteArray
  left : ByteArray
  right : ByteArray
  minus : ByteArray
  quote : ByteArray
  trains : Bool
  lone : Bool
  square : Bool
  lA : Option Addr
  lc : Nat
  L : List Tok
  en : Int
def StrsAt (w : World) (A : Option Addr) (l : List ByteArray) : Prop := 0 < l.length → ∃ b off, A = some ⟨b, off, none⟩ ∧ ∀ j x, l[j]? = some x → w.cell? ⟨b, off + j, none⟩ = some (.string x)
def LitRead (w : World) (t : Lt) (c n : Int) : Prop := 0 < t.cn → ∃ b off, t.cA = some ⟨b, off, none⟩ ∧ w.cell? ⟨b, off, none⟩ = some (.int .i64 c) ∧ w.cell? ⟨b, off + 1, none⟩ = some (.int .i64 n)
structure TokAt (w : World) (b o : Nat) (t : Tok) : Prop where
  k0 : w.cell? ⟨b, o, none⟩ = some (.int .i64 t.kind)
  k1 : w.cell? ⟨b, o + 1, none⟩ = some (.string t.text)
  k2 : w.cell? ⟨b, o + 2, none⟩ = some (.slice t.lit.sA t.lit.sn t.lit.sc)
  k3 : w.cell? ⟨b, o + 3, none⟩ = some (.slice t.lit.cA t.lit.cn t.lit.cc)
  k4 : w.cell? ⟨b, o + 4, none⟩ = some (.int .i64 t.at_)
  lit : LitRead w t.lit t.lit.c0 t.lit.n0
def ToksRead (w : World) (A : Option Addr) (L : List Tok) : Prop := 0 < L.length → ∃ b off, A = some ⟨b, off, none⟩ ∧ ∀ j t, L[j]? = some t → TokAt w b (off + j * 5) t
structure EnvAt (w : World) (E : Env) : Prop where
  v : StrsAt w E.vA E.vs
  a : StrsAt w E.aA E.as_
  b : StrsAt w E.bA E.bs
  l : ToksRead w E.lA E.L
  vn : E.vs.length ≤ 1000000
  an : E.as_.length ≤ 1000000
  bn : E.bs.length ≤ 1000000
  ln : E.L.length ≤ 100000
theorem StrsAt.below {w w' : World} {A : Option Addr} {l : List ByteArray} (h : StrsAt w A l) (hb : Below w.heap.size w w') : StrsAt w' A l := by
  intro h0
  obtain ⟨b, off, h1, h2⟩ := h h0
  exact ⟨b, off, h1, fun j x hx => cell_below hb (h2 j x hx)⟩
theorem LitRead.below {w w' : World} {t : Lt} {c n : Int} (h : LitRead w t c n) (hb : Below w.heap.size w w') : LitRead w' t c n := by
  intro h0
  obtain ⟨b, off, h1, h2, h3⟩ := h h0
  exact ⟨b, off, h1, cell_below hb h2, cell_below hb h3⟩
theorem TokAt.below {w w' : World} {b o : Nat} {t : Tok} (h : TokAt w b o t) (hb : Below w.heap.size w w') : TokAt w' b o t :=
  ⟨cell_below hb h.k0, cell_below hb h.k1, cell_below hb h.k2, cell_below hb h.k3, cell_below hb h.k4, h.lit.below hb⟩
theorem ToksRead.below {w w' : World} {A : Option Addr} {L : List Tok} (h : ToksRead w A L) (hb : Below w.heap.size w w') : ToksRead w' A L := by
  intro h0
  obtain ⟨b, off, h1, h2⟩ := h h0
  exact ⟨b, off, h1, fun j t ht => (h2 j t ht).below hb⟩
theorem EnvAt.below {w w' : World} {E : Env} (h : EnvAt w E) (hb : Below w.heap.size w w') : EnvAt w' E :=
  ⟨h.v.below hb, h.a.below hb, h.b.below hb, h.l.below hb, h.vn, h.an, h.bn, h.ln⟩

/-- the parser's block: grammar, words, place, end, depth, functions about -/
def pcell (E : Env) (i : Nat) (deep inn : Int) : Obj :=
  .cells #[.slice E.vA E.vs.length E.vc, .slice E.aA E.as_.length E.ac, .slice E.bA E.bs.length E.bc, .string E.outer, .string E.power, .string E.open_, .string E.close, .string E.left, .string E.right, .string E.minus, .string E.quote, .bool E.trains, .bool E.lone, .bool E.square, .slice E.lA E.L.length E.lc, .int .i64 (i : Int), .int .i64 E.en, .int .i64 deep, .int .i64 inn] 56 (0, 0)

/-- is a word so -/
def Env.is (E : Env) (i : Nat) (kind : Int) (text : ByteArray) : Bool := match E.L[i]? with
  | none => false
  | some t => t.kind == kind && (t.text.toList == text.toList && !(text.toList == []))
def hasStr (l : List ByteArray) (x : ByteArray) : Bool := l.any fun y => x.toList == y.toList
def Env.sign (E : Env) (i : Nat) (l : List ByteArray) : Bool := match E.L[i]? with
  | none => false
  | some t => t.kind == 4 && hasStr l t.text
theorem Env.is_none {E : Env} {i : Nat} (h : E.L.length ≤ i) (k : Int) (x : ByteArray) : E.is i k x = false := by
  unfold Env.is
  rw [List.getElem?_eq_none h]
theorem Env.is_some {E : Env} {i : Nat} {t : Tok} (h : E.L[i]? = some t) (k : Int) (x : ByteArray) : E.is i k x = (t.kind == k && (t.text.toList == x.toList && !(x.toList == []))) := by
  unfold Env.is
  rw [h]
theorem Env.sign_none {E : Env} {i : Nat} (h : E.L.length ≤ i) (l : List ByteArray) : E.sign i l = false := by
  unfold Env.sign
  rw [List.getElem?_eq_none h]
theorem Env.sign_some {E : Env} {i : Nat} {t : Tok} (h : E.L[i]? = some t) (l : List ByteArray) : E.sign i l = (t.kind == 4 && hasStr l t.text) := by
  unfold Env.sign
  rw [h]
/-- the word at a place, as it reads in memory -/
theorem EnvAt.tok {w : World} {E : Env} (hE : EnvAt w E) {i : Nat} (hlt : i < E.L.length) : ∃ t b off, E.L[i]? = some t ∧ E.lA = some ⟨b, off, none⟩ ∧ TokAt w b (off + i * 5) t := by
  obtain ⟨b, off, hA, hall⟩ := hE.l (by omega)
  exact ⟨_, b, off, List.getElem?_eq_getElem hlt, hA, hall i _ (List.getElem?_eq_getElem hlt)⟩

def Says (v : Value) (w : World) (e : Ending) (w' : World) : Prop := e = .returned v ∧ w' = w
set_option maxRecDepth 100000 in
set_option maxHeartbeats 2000000 in
theorem is_any (E : Env) (bp : Nat) (p : Nat) (d n : Int) (i : Nat) (kind : Int) (text : ByteArray) (w : World) (hE : EnvAt w E) (hp : w.heap[bp]? = some (pcell E p d n)) :
    Calls Try.prog 54 #[.pointer (some ⟨bp, 0, none⟩), .int .i64 (i : Int), .int .i64 kind, .string text] w (Says (.bool (E.is i kind text)) w) := by
  have c14 := blk_cell hp 14
  have hln := hE.ln
  rcases Nat.lt_or_ge i E.L.length with hlt | hge
  · obtain ⟨t, b, off, ht, hA, hk⟩ := hE.tok hlt
    have k0 := hk.k0
    have k1 := hk.k1
    rw [Env.is_some ht]
    rw [hA] at c14
    have hi0 : (0 : Int) ≤ (i : Int) := by omega
    have hi1 : (i : Int) < (E.L.length : Int) := by omega
    have d1 : decide (i < E.L.length) = true := decide_eq_true hlt
    clear hp hE hk ht hA
    generalize t.text = x at *
    generalize t.kind = tk at *
    cases b1 : (tk == kind)
    · go_enter Try.func54, Try.ntmps54
      go_wp2
      refine bodyPost_ret (v := .bool false) (by simp [results, Try.results54, go_sem]) rfl ?_
      exact ⟨rfl, rfl⟩
    · cases b2 : (x.toList == text.toList)
      · go_enter Try.func54, Try.ntmps54
        go_wp2
        refine bodyPost_ret (v := .bool false) (by simp [results, Try.results54, go_sem]) rfl ?_
        exact ⟨rfl, rfl⟩
      · cases b3 : (text.toList == [])
        ·
          go_enter Try.func54, Try.ntmps54
          go_wp2
          refine bodyPost_ret (v := .bool true) (by simp [results, Try.results54, go_sem]) rfl ?_
          exact ⟨rfl, rfl⟩
        ·
          go_enter Try.func54, Try.ntmps54
          go_wp2
          refine bodyPost_ret (v := .bool false) (by simp [results, Try.results54, go_sem]) rfl ?_
          exact ⟨rfl, rfl⟩
  · rw [Env.is_none hge]
    have d1 : decide (i < E.L.length) = false := decide_eq_false (by omega)
    have d2 : decide ((i : Int) < (E.L.length : Int)) = false := decide_eq_false (by omega)
    clear hp hE
    go_enter Try.func54, Try.ntmps54
    go_wp2
    refine bodyPost_ret (v := .bool false) (by simp [results, Try.results54, go_sem]) rfl ?_
    exact ⟨rfl, rfl⟩
end Go.Proofs.Ytollglblkbjgjaa
