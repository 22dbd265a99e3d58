/- The parser in plain Lean: what it reads from a word on, or where it gives up. Conditions: none. -/
import Derived.Test.YtollglblkbjgjaaGh
import Derived.Shelf.RegionOpenPlain
namespace Go.Proofs.Ytollglblkbjgjaa
open Go.RowKit

mutual
def Nd.righted : Nd → Nd
 | .mk k o nm l ks a => if k = 22 ∨ k = 23 then .mk k o nm l ks a else .mk (if k = 3 then 4 else k) o nm l (righteds ks) a
def righteds : List Nd → List Nd
 | [] => []
 | k :: ks => k.righted :: righteds ks
end
theorem righteds_len : ∀ ks : List Nd, (righteds ks).length = ks.length
 | [] => rfl
 | k :: ks => by simp only [righteds, List.length_cons, righteds_len ks]
mutual
theorem Nd.righted_size : ∀ k : Nd, k.righted.size = k.size
 | .mk k o nm l ks a => by
  rw [Nd.righted]
  split
  ·rfl
  ·simp only [Nd.size, righteds_size ks]
theorem righteds_size : ∀ ks : List Nd, sizes (righteds ks) = sizes ks
 | [] => rfl
 | k :: ks => by simp only [righteds, sizes, Nd.righted_size k, righteds_size ks]
end
theorem righteds_append : ∀ a b : List Nd, righteds (a ++ b) = righteds a ++ righteds b
 | [], _ => rfl
 | k :: a, b => by simp only [List.cons_append, righteds, righteds_append a b]
theorem righteds_take (ks : List Nd) (i : Nat) (k : Nd) (h : ks[i]? = some k) : righteds (ks.take (i + 1)) = righteds (ks.take i) ++ [k.righted] := by
 obtain ⟨hlt, rfl⟩ := List.getElem?_eq_some_iff.1 h
 rw [List.take_succ_eq_append_getElem hlt, righteds_append]
 rfl
theorem Nd.righted_lit (k : Nd) : k.righted.lit = k.lit := by
 obtain ⟨kk, o, nm, l, ks, a⟩ := k
 rw [Nd.righted]
 split <;> rfl

/-- what is known of a row of parts behind one more -/
theorem nd_push {w1 w2 W4 w5 : World} {gg n vc cap H : Nat} {vA : Option Addr} {vs u : List Value} {ks : List Nd} {k : Nd} {P Q : Nat → Prop}
  (htk : NdsAt (fun b => P b ∧ Value.ownBlock (.slice vA n vc) ≠ some b) w1 vs ks) (hQ : ∀ b, Q b → b < w2.heap.size → P b ∧ Value.ownBlock (.slice vA n vc) ≠ some b) (hk : NdAt Q w2 (.agg u.toArray) k) (hu : u.length = 7)
  (hs12 : w1.heap.size ≤ w2.heap.size) (h12 : ∀ b, b < w1.heap.size → P b → w2.heap[b]? = w1.heap[b]?)
  (hal : Below w2.heap.size w2 W4) (hgrow : W4.grownBy w5 (Value.ownBlock (.slice vA n vc))) (hH : H = W4.heap.size) (hat : Value.ownBlock (.slice vA n vc) = some gg ∨ gg = H) :
  NdsAt (fun b => P b ∧ Value.ownBlock (.slice (some ⟨gg, 0, none⟩) (n + 1) cap) ≠ some b) w5 (vs ++ u) (ks ++ [k]) := by
 subst hH
 have h24 := hal.size
 have h45 := hgrow.size
 have hkeep : ∀ b, b < w2.heap.size → Value.ownBlock (.slice vA n vc) ≠ some b → w5.heap[b]? = w2.heap[b]? := fun b hb hne => (hgrow.block b (by omega) (fun e => hne e.symm)).trans (hal.block b hb)
 have hgg : ∀ b, b < w2.heap.size → Value.ownBlock (.slice vA n vc) ≠ some b → gg ≠ b := by
  intro b hb hne e
  subst e
  rcases hat with h | h
  ·exact hne h
  ·omega
 refine NdsAt.snoc hu (hk.mono (by omega) fun b hS hb => ?_) (htk.mono (by omega) fun b hS hb => ?_)
 ·obtain ⟨h1, hne⟩ := hQ b hS hb
  refine ⟨⟨h1, fun e => hgg b hb hne ?_⟩, hkeep b hb hne⟩
  simpa [Value.ownBlock] using e
 ·refine ⟨⟨hS.1, fun e => hgg b (by omega) hS.2 ?_⟩, (hkeep b (by omega) hS.2).trans (h12 b hb hS.1)⟩
  simpa [Value.ownBlock] using e
theorem rowIn_own {w : World} {base n size : Nat} {e : TypeId} {A : Option Addr} {c : Nat} {vs : List Value} (h : w.ownsRow base e size (.slice A n c) n vs) : RowIn (base ≤ ·) w A vs := by
 intro hp
 have hn : 0 < n := by
  rcases Nat.eq_zero_or_pos n with h0 | h0
  ·have := h.1; rw [h0, Nat.zero_mul] at this; omega
  ·exact h0
 obtain ⟨g, cap, hv, hb, hlt⟩ := h.form hn
 cases hv
 refine ⟨g, rfl, hb, hlt, fun i u hu => ?_⟩
 have hi := (List.getElem?_eq_some_iff.1 hu).1
 rw [h.cellAt i (by rw [← h.1]; exact hi)]
 exact hu
theorem rowIn_new (S : Nat → Prop) (w : World) (vs : List Value) (t : TypeId) (hS : S w.heap.size) : RowIn S (w.alloc (.cells vs.toArray t)) (some ⟨w.heap.size, 0, none⟩) vs := by
 intro _
 refine ⟨w.heap.size, rfl, hS, by simp, fun i u hu => ?_⟩
 rw [blk_cell (blk_new w _)]
 simpa using hu
theorem info39 : (Try.prog.info? 39).map (fun i => (i.zero, i.size, i.bytes)) = some (some (.agg #[.int .i64 0, .int .i64 0, .string ⟨#[]⟩, .slice none 0 0, .slice none 0 0, .slice none 0 0, .int .i64 0]), 7, 112) := by kernel_rfl
end Go.Proofs.Ytollglblkbjgjaa
namespace Go.Proofs.Ytollglblkbjgjaa
open Go.RowKit

def Res.bind {α β : Type} (r : Res α) (f : α → Nat → Res β) : Res β := match r with
 | .ok k j => f k j
 | .bad er i => .bad er i
theorem Res.bind_ok {α β : Type} (k : α) (j : Nat) (f : α → Nat → Res β) : (Res.ok k j).bind f = f k j := rfl
theorem Res.bind_bad {α β : Type} (er : Int) (i : Nat) (f : α → Nat → Res β) : (Res.bad er i : Res α).bind f = .bad er i := rfl
def Env.text (E : Env) (i : Nat) : ByteArray := match E.L[i]? with
 | some t => t.text
 | none => ⟨#[]⟩
/-- a function's text -/
def Env.lamM (E : Env) (X : Nat → Bool → Res Nd) (i : Nat) : Res Nd :=
 (X (i + 1) true).bind fun body j =>
    if E.is j 6 E.close = true then
     (if (body.uses 3 && body.uses 4) = true then .ok (.mk 23 0 ⟨#[]⟩ Lt.zero [body] (E.here i)) (j + 1)
     else if ((E.lone && body.uses 4) || (!E.lone && body.uses 3)) = true then .bad 2 i
     else .ok (.mk 22 0 ⟨#[]⟩ Lt.zero [body.righted] (E.here i)) (j + 1))
    else .bad 2 j
/-- functions up to a bracket that closes -/
def Env.grpM (E : Env) (F : Nat → Res Nd) : Nat → Nat → List Nd → Res (List Nd)
 | 0, k, _ => .bad 2 k
 | g + 1, k, acc => if E.is k 6 ⟨#[41]⟩ = true then .ok acc (k + 1) else (F k).bind fun x j => E.grpM F g j (acc ++ [x])
def grpNd (at_ : Int) : List Nd → Nd
 | [x] => x
 | ks => .mk (if ks.length = 2 then 28 else 27) 0 ⟨#[]⟩ Lt.zero ks at_
/-- a function without what stands behind it -/
def Env.baseM (E : Env) (X : Nat → Bool → Res Nd) (F : Nat → Bool → Res Nd) (i : Nat) (b : Bool) : Res Nd :=
 if E.is i 5 E.open_ = true then E.lamM X i
 else if E.is i 5 ⟨#[40]⟩ = true then (E.grpM (fun k => F k b) (E.L.length + 1) (i + 1) []).bind fun ks k => .ok (grpNd (E.here i) ks) k
 else .ok (.mk 21 0 (E.text i) Lt.zero [] (E.here i)) (i + 1)
/-- what stands behind a function -/
def Env.tailM (E : Env) (at_ : Int) : Nat → Nat → Nd → Res Nd
 | 0, k, kd => .ok kd k
 | g + 1, k, kd => if E.sign k E.as_ = true then E.tailM at_ g (k + 1) (.mk 24 0 (E.text k) Lt.zero [kd] at_) else match E.pow k with
  | some n => E.tailM at_ g (k + 2) (.mk 26 n ⟨#[]⟩ Lt.zero [kd] at_)
  | none => .ok kd k
def Env.funM (E : Env) (X : Nat → Bool → Res Nd) (F : Nat → Bool → Res Nd) (i : Nat) (b : Bool) : Res Nd :=
 (E.baseM X F (if E.is i 4 E.outer = true then i + 1 else i) (b && !E.is i 4 E.outer)).bind fun kd k =>
    E.tailM (E.here i) (E.L.length + 1) k (if E.is i 4 E.outer = true then .mk 25 0 ⟨#[]⟩ Lt.zero [kd] (E.here i) else kd)
/-- what stands in square brackets behind an operand -/
def Env.idxM (E : Env) (X : Nat → Res Nd) (at_ : Int) : Nat → Nat → Nd → Res Nd
 | 0, k, _ => .bad 2 k
 | g + 1, k, kd => if (E.square && E.is k 5 ⟨#[91]⟩) = true then (X (k + 1)).bind fun x j => (if E.is j 6 ⟨#[93]⟩ = true then E.idxM X at_ g (j + 1) (.mk 8 0 ⟨#[]⟩ Lt.zero [kd, x] at_) else .bad 2 j) else .ok kd k
def nameCh (s : ByteArray) (i : Nat) : Bool := match s.data[i]? with
 | none => true
 | some c => (decide (97 ≤ (c.toNat : Int)) && decide ((c.toNat : Int) ≤ 119)) || (!decide (i = 0) && (decide (48 ≤ (c.toNat : Int)) && decide ((c.toNat : Int) ≤ 57)))
def nameGo (s : ByteArray) : Nat → Nat → Bool
 | 0, _ => true
 | f + 1, i => nameCh s i && nameGo s f (i + 1)
def nameOK (s : ByteArray) : Bool := nameGo s s.size 0 && (decide (0 < s.size) && decide (s.size ≤ 8))
/-- an operand's first part -/
def Env.op1M (E : Env) (X : Nat → Res Nd) (i : Nat) (inn : Bool) (t : Tok) : Res Nd :=
 if t.kind = 1 ∨ t.kind = 2 then .ok (.mk 1 0 ⟨#[]⟩ t.lit [] t.at_) (i + 1)
 else if t.kind = 3 then
  (if (inn && t.text.toList == E.left.toList) = true then .ok (.mk 3 0 ⟨#[]⟩ Lt.zero [] t.at_) (i + 1)
  else if (inn && t.text.toList == E.right.toList) = true then .ok (.mk 4 0 ⟨#[]⟩ Lt.zero [] t.at_) (i + 1)
  else if nameOK t.text = true then .ok (.mk 2 0 t.text Lt.zero [] t.at_) (i + 1)
  else .bad 2 i)
 else if E.is i 5 ⟨#[40]⟩ = true then (X (i + 1)).bind fun x j => (if E.is j 6 ⟨#[41]⟩ = true then .ok x (j + 1) else .bad 2 j)
 else .bad 2 i
def Env.opM (E : Env) (X : Nat → Res Nd) (i : Nat) (inn : Bool) : Res Nd := match E.L[i]? with
 | none => .bad 2 i
 | some t => (E.op1M X i inn t).bind fun kd k => E.idxM X t.at_ (E.L.length + 1) k kd
/-- how often an operand says that stands ahead of a function and a stroke, in a dialect that has it so -/
def Env.lone1 (E : Env) (f a : Nd) : Bool := E.lone && (f.kind == 24 && (f.name.toList == [47] && ((f.kids.head?.map Nd.kind) == some 22 && a.kind == 1)))
/-- does the text of an expression end at a word -/
def Env.ends (E : Env) (j : Nat) : Bool := match E.L[j]? with
 | none => true
 | some t => t.kind == 6
def Env.exM (E : Env) (X : Nat → Bool → Res Nd) (F : Nat → Bool → Bool → Res Nd) (i : Nat) (inn : Bool) : Res Nd :=
 match E.skipF (E.L.length + 1) i false with
 | some _ => (F i false inn).bind fun f j => (X j inn).bind fun x q => .ok (.mk 5 0 ⟨#[]⟩ Lt.zero [f, x] (E.here i)) q
 | none => (E.opM (fun k => X k inn) i inn).bind fun a j =>
  if E.ends j = true then .ok a j
  else match E.skipF (E.L.length + 1) j true with
   | none => .bad 2 j
   | some _ => (F j true inn).bind fun f q =>
    if E.lone1 f a = true then (match timesOf a.lit a.lit.c0 a.lit.n0 with
     | none => .bad 2 j
     | some m => (X q inn).bind fun x r => .ok (.mk 5 0 ⟨#[]⟩ Lt.zero [.mk 26 m ⟨#[]⟩ Lt.zero f.kids (E.here i), x] (E.here i)) r)
    else (X q inn).bind fun x r => .ok (.mk 6 0 ⟨#[]⟩ Lt.zero [f, a, x] (E.here i)) r
/-- expressions and functions, so many brackets deep at most -/
def Env.go (E : Env) : Nat → (Nat → Bool → Res Nd) × (Nat → Bool → Bool → Res Nd)
 | 0 => (fun i _ => .bad 15 i, fun i _ _ => .bad 15 i)
 | f + 1 => (fun i inn => E.exM (E.go f).1 (E.go f).2 i inn, fun i b inn => E.funM (E.go f).1 (fun k c => (E.go f).2 k c inn) i b)
def Env.X (E : Env) (d : Int) : Nat → Bool → Res Nd := (E.go (24 - d).toNat).1
def Env.F (E : Env) (d : Int) : Nat → Bool → Bool → Res Nd := (E.go (24 - d).toNat).2
theorem Env.X_step {E : Env} {d : Int} (h : d < 24) (i : Nat) (inn : Bool) : E.X d i inn = E.exM (E.X (d + 1)) (E.F (d + 1)) i inn := by
 unfold Env.X Env.F
 rw [show (24 - d).toNat = (24 - (d + 1)).toNat + 1 by omega]
 rfl
theorem Env.F_step {E : Env} {d : Int} (h : d < 24) (i : Nat) (b inn : Bool) : E.F d i b inn = E.funM (E.X (d + 1)) (fun k c => E.F (d + 1) k c inn) i b := by
 unfold Env.X Env.F
 rw [show (24 - d).toNat = (24 - (d + 1)).toNat + 1 by omega]
 rfl
theorem Env.X_deep {E : Env} {d : Int} (h : 24 ≤ d) (i : Nat) (inn : Bool) : E.X d i inn = .bad 15 i := by
 unfold Env.X
 rw [show (24 - d).toNat = 0 by omega]
 rfl
theorem Env.F_deep {E : Env} {d : Int} (h : 24 ≤ d) (i : Nat) (b inn : Bool) : E.F d i b inn = .bad 15 i := by
 unfold Env.F
 rw [show (24 - d).toNat = 0 by omega]
 rfl
end Go.Proofs.Ytollglblkbjgjaa
