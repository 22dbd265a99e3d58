/- The parts of a program as they lie in memory. Conditions: none beyond each theorem's own. -/
import Derived.Test.YtollglblkbjgjaaGf
namespace Go.Proofs.Ytollglblkbjgjaa
open Go.RowKit

/-- a part of a program -/
inductive Nd where
 | mk (kind op : Int) (name : ByteArray) (lit : Lt) (kids : List Nd) (at_ : Int)
def Nd.kind : Nd → Int | .mk k _ _ _ _ _ => k
def Nd.name : Nd → ByteArray | .mk _ _ n _ _ _ => n
def Nd.lit : Nd → Lt | .mk _ _ _ l _ _ => l
def Nd.kids : Nd → List Nd | .mk _ _ _ _ ks _ => ks
def Lt.zero : Lt := ⟨none, 0, 0, none, 0, 0, 0, 0⟩
mutual
def Nd.size : Nd → Nat
 | .mk _ _ _ _ ks _ => sizes ks + 1
def sizes : List Nd → Nat
 | [] => 0
 | k :: ks => k.size + sizes ks
end
/-- a row of values that lies in a block of its own -/
def RowIn (S : Nat → Prop) (w : World) (A : Option Addr) (vs : List Value) : Prop := 0 < vs.length → ∃ b, A = some ⟨b, 0, none⟩ ∧ S b ∧ b < w.heap.size ∧ ∀ i u, vs[i]? = some u → w.cell? ⟨b, i, none⟩ = some u
theorem RowIn.mono {S T : Nat → Prop} {w w' : World} {A : Option Addr} {vs : List Value} (h : RowIn S w A vs) (hs : w.heap.size ≤ w'.heap.size) (hST : ∀ b, S b → b < w.heap.size → T b ∧ w'.heap[b]? = w.heap[b]?) : RowIn T w' A vs := by
 intro h0
 obtain ⟨b, h1, h2, h3, h4⟩ := h h0
 obtain ⟨h5, h6⟩ := hST b h2 h3
 exact ⟨b, h1, h5, by omega, fun i u hu => (World.cell?_of_block h6).trans (h4 i u hu)⟩
mutual
def NdAt (S : Nat → Prop) (w : World) : Value → Nd → Prop
 | v, .mk k o nm l ks a => ∃ (A : Option Addr) (c : Nat) (vs : List Value), v = .agg #[.int .i64 k, .int .i64 o, .string nm, .slice l.sA l.sn l.sc, .slice l.cA l.cn l.cc, .slice A ks.length c, .int .i64 a] ∧ ks.length ≤ c ∧ RowIn S w A vs ∧ NdsAt S w vs ks
def NdsAt (S : Nat → Prop) (w : World) : List Value → List Nd → Prop
 | vs, [] => vs = []
 | vs, k :: ks => ∃ (u : List Value) (rest : List Value), u.length = 7 ∧ vs = u ++ rest ∧ NdAt S w (.agg u.toArray) k ∧ NdsAt S w rest ks
end
mutual
theorem NdAt.mono {S T : Nat → Prop} {w w' : World} (hs : w.heap.size ≤ w'.heap.size) (hST : ∀ b, S b → b < w.heap.size → T b ∧ w'.heap[b]? = w.heap[b]?) : ∀ {v : Value} {n : Nd}, NdAt S w v n → NdAt T w' v n
 | v, .mk k o nm l ks a, h => by
  simp only [NdAt] at h ⊢
  obtain ⟨A, c, vs, h1, h2, h3, h4⟩ := h
  exact ⟨A, c, vs, h1, h2, h3.mono hs hST, NdsAt.mono hs hST h4⟩
theorem NdsAt.mono {S T : Nat → Prop} {w w' : World} (hs : w.heap.size ≤ w'.heap.size) (hST : ∀ b, S b → b < w.heap.size → T b ∧ w'.heap[b]? = w.heap[b]?) : ∀ {vs : List Value} {ks : List Nd}, NdsAt S w vs ks → NdsAt T w' vs ks
 | vs, [], h => by simp only [NdsAt] at h ⊢; exact h
 | vs, k :: ks, h => by
  simp only [NdsAt] at h ⊢
  obtain ⟨u, rest, h1, h2, h3, h4⟩ := h
  exact ⟨u, rest, h1, h2, NdAt.mono hs hST h3, NdsAt.mono hs hST h4⟩
end
theorem NdAt.below {S : Nat → Prop} {w w' : World} {v : Value} {n : Nd} (h : NdAt S w v n) (hb : Below w.heap.size w w') : NdAt S w' v n := h.mono hb.size (fun b hS hlt => ⟨hS, hb.block b hlt⟩)
theorem NdsAt.below {S : Nat → Prop} {w w' : World} {vs : List Value} {ks : List Nd} (h : NdsAt S w vs ks) (hb : Below w.heap.size w w') : NdsAt S w' vs ks := h.mono hb.size (fun b hS hlt => ⟨hS, hb.block b hlt⟩)
theorem NdAt.pm {E : Env} {bp p : Nat} {d n : Int} {w w' : World} {v : Value} {k : Nd} (h : NdAt (bp < ·) w v k) (hm : PM E bp p d n w w') : NdAt (bp < ·) w' v k :=
 h.mono hm.1.size (fun b hS hlt => ⟨hS, hm.1.block b hlt (by intro e; cases e; exact Nat.lt_irrefl _ hS)⟩)
theorem NdAt.form {S : Nat → Prop} {w : World} {v : Value} {n : Nd} (h : NdAt S w v n) : ∃ (o : Int) (l : Lt) (A : Option Addr) (c : Nat) (a : Int) (vs : List Value), v = .agg #[.int .i64 n.kind, .int .i64 o, .string n.name, .slice l.sA l.sn l.sc, .slice l.cA l.cn l.cc, .slice A n.kids.length c, .int .i64 a] ∧ l = n.lit ∧ n.kids.length ≤ c ∧ RowIn S w A vs ∧ NdsAt S w vs n.kids := by
 obtain ⟨k, o, nm, l, ks, a⟩ := n
 simp only [NdAt] at h
 obtain ⟨A, c, vs, h1, h2, h3, h4⟩ := h
 exact ⟨o, l, A, c, a, vs, h1, rfl, h2, h3, h4⟩
theorem NdsAt.length {S : Nat → Prop} {w : World} : ∀ {vs : List Value} {ks : List Nd}, NdsAt S w vs ks → vs.length = ks.length * 7
 | _, [], h => by simp only [NdsAt] at h; rw [h]; rfl
 | _, k :: ks, h => by
  simp only [NdsAt] at h
  obtain ⟨u, rest, h1, rfl, _, h4⟩ := h
  rw [List.length_append, h4.length, List.length_cons, h1]
  omega
theorem NdsAt.snoc {S : Nat → Prop} {w : World} {k : Nd} {u : List Value} (hu : u.length = 7) (hk : NdAt S w (.agg u.toArray) k) : ∀ {vs : List Value} {ks : List Nd}, NdsAt S w vs ks → NdsAt S w (vs ++ u) (ks ++ [k])
 | _, [], h => by
  simp only [NdsAt] at h
  subst h
  simp only [List.nil_append, NdsAt]
  exact ⟨u, [], hu, by simp, hk, rfl⟩
 | _, j :: ks, h => by
  simp only [NdsAt] at h
  obtain ⟨u', rest, h1, rfl, h3, h4⟩ := h
  simp only [List.cons_append, NdsAt]
  exact ⟨u', rest ++ u, h1, by rw [List.append_assoc], h3, NdsAt.snoc hu hk h4⟩
theorem NdsAt.at {S : Nat → Prop} {w : World} : ∀ {vs : List Value} {ks : List Nd} (i : Nat) (k : Nd), NdsAt S w vs ks → ks[i]? = some k → ∃ u : List Value, u.length = 7 ∧ NdAt S w (.agg u.toArray) k ∧ ∀ j, j < 7 → vs[i * 7 + j]? = u[j]?
 | _, [], i, k, _, h => by simp at h
 | _, c :: ks, 0, k, h, hi => by
  simp only [NdsAt] at h
  obtain ⟨u, rest, h1, rfl, h3, h4⟩ := h
  simp at hi
  subst hi
  refine ⟨u, h1, h3, fun j hj => ?_⟩
  rw [Nat.zero_mul, Nat.zero_add, List.getElem?_append_left (by omega)]
 | _, c :: ks, i + 1, k, h, hi => by
  simp only [NdsAt] at h
  obtain ⟨u, rest, h1, rfl, h3, h4⟩ := h
  obtain ⟨u', g1, g2, g3⟩ := NdsAt.at i k h4 (by simpa using hi)
  refine ⟨u', g1, g2, fun j hj => ?_⟩
  rw [List.getElem?_append_right (by omega), h1, show (i + 1) * 7 + j - 7 = i * 7 + j by omega]
  exact g3 j hj
theorem sizes_append : ∀ (a b : List Nd), sizes (a ++ b) = sizes a + sizes b
 | [], b => by simp [sizes]
 | k :: a, b => by simp only [List.cons_append, sizes, sizes_append a b]; omega
theorem size_kid : ∀ {ks : List Nd} {i : Nat} {k : Nd}, ks[i]? = some k → k.size ≤ sizes ks
 | [], _, _, h => by simp at h
 | c :: ks, 0, k, h => by simp at h; subst h; simp only [sizes]; omega
 | c :: ks, i + 1, k, h => by
  have := size_kid (ks := ks) (i := i) (k := k) (by simpa using h)
  simp only [sizes]; omega
theorem Nd.size_pos (n : Nd) : 1 ≤ n.size := by
 obtain ⟨k, o, nm, l, ks, a⟩ := n
 simp only [Nd.size]; omega
theorem Nd.size_kids (n : Nd) : n.size = sizes n.kids + 1 := by
 obtain ⟨k, o, nm, l, ks, a⟩ := n
 rfl
theorem take_sizes (ks : List Nd) (i : Nat) (k : Nd) (h : ks[i]? = some k) : sizes (ks.take (i + 1)) = sizes (ks.take i) + k.size := by
 obtain ⟨hlt, rfl⟩ := List.getElem?_eq_some_iff.1 h
 rw [List.take_succ_eq_append_getElem hlt, sizes_append]
 simp [sizes]
theorem sizes_take (ks : List Nd) (i : Nat) : sizes (ks.take i) ≤ sizes ks := by
 have := sizes_append (ks.take i) (ks.drop i)
 rw [List.take_append_drop] at this
 omega
theorem len_sizes : ∀ ks : List Nd, ks.length ≤ sizes ks
 | [] => Nat.le_refl _
 | k :: ks => by
  have := k.size_pos
  have := len_sizes ks
  simp only [sizes, List.length_cons]; omega
/-- a part of a part: its seven cells, read where the row lies -/
theorem kid_cells {S : Nat → Prop} {w wr : World} {A : Option Addr} {vs : List Value} {ks : List Nd} (hr : RowIn S w A vs) (hk : NdsAt S w vs ks) (hb : Below w.heap.size w wr) {i : Nat} {k : Nd} (hi : ks[i]? = some k) :
  ∃ (b : Nat) (o : Int) (l : Lt) (B : Option Addr) (c : Nat) (a : Int), A = some ⟨b, 0, none⟩ ∧ b < wr.heap.size ∧ NdAt S wr (.agg #[.int .i64 k.kind, .int .i64 o, .string k.name, .slice l.sA l.sn l.sc, .slice l.cA l.cn l.cc, .slice B k.kids.length c, .int .i64 a]) k ∧
   wr.cell? ⟨b, i * 7, none⟩ = some (.int .i64 k.kind) ∧ wr.cell? ⟨b, i * 7 + 1, none⟩ = some (.int .i64 o) ∧ wr.cell? ⟨b, i * 7 + 2, none⟩ = some (.string k.name) ∧ wr.cell? ⟨b, i * 7 + 3, none⟩ = some (.slice l.sA l.sn l.sc) ∧ wr.cell? ⟨b, i * 7 + 4, none⟩ = some (.slice l.cA l.cn l.cc) ∧ wr.cell? ⟨b, i * 7 + 5, none⟩ = some (.slice B k.kids.length c) ∧ wr.cell? ⟨b, i * 7 + 6, none⟩ = some (.int .i64 a) := by
 obtain ⟨u, h1, h2, h3⟩ := hk.at i k hi
 have hlen := hk.length
 have hil := (List.getElem?_eq_some_iff.1 hi).1
 obtain ⟨b, hA, _, hbl, hc⟩ := hr (by omega)
 obtain ⟨o, l, B, c, a, vs', hf, _, _, _, _⟩ := h2.form
 have hu : u = [.int .i64 k.kind, .int .i64 o, .string k.name, .slice l.sA l.sn l.sc, .slice l.cA l.cn l.cc, .slice B k.kids.length c, .int .i64 a] := by
  simp only [Value.agg.injEq] at hf
  have := congrArg Array.toList hf
  simpa using this
 subst hu
 have g := fun j (hj : j < 7) => (show ∀ x, ([.int .i64 k.kind, .int .i64 o, .string k.name, .slice l.sA l.sn l.sc, .slice l.cA l.cn l.cc, .slice B k.kids.length c, .int .i64 a] : List Value)[j]? = some x → wr.cell? ⟨b, i * 7 + j, none⟩ = some x from fun x hx => cell_below hb (hc _ _ ((h3 j hj).trans hx)))
 exact ⟨b, o, l, B, c, a, hA, Nat.lt_of_lt_of_le hbl hb.size, h2.below hb, g 0 (by omega) _ rfl, g 1 (by omega) _ rfl, g 2 (by omega) _ rfl, g 3 (by omega) _ rfl, g 4 (by omega) _ rfl, g 5 (by omega) _ rfl, g 6 (by omega) _ rfl⟩

def Counts (n : Nat) (w : World) (e : Ending) (w' : World) : Prop := e = .returned (.int .i64 (n : Int)) ∧ Below w.heap.size w w'
set_option maxRecDepth 100000 in
set_option maxHeartbeats 4000000 in
theorem size_any {S : Nat → Prop} : ∀ (m : Nat) (k : Nd) (v : Value) (w : World), k.size ≤ m → m ≤ 1000000 → NdAt S w v k → Calls Try.prog 11 #[v] w (Counts k.size w) := by
 intro m
 induction m with
 | zero => intro k v w hk; have := k.size_pos; omega
 | succ m ih =>
  intro k v w hk hm hv
  have IH := Lib.hid ih
  obtain ⟨o, l, A, c, a, vs, rfl, hl, hc, hrow, hkids⟩ := hv.form
  have hsz := k.size_kids
  have HROW := Lib.hid hrow
  have HK := Lib.hid hkids
  have HKM := Lib.hid hk
  have hsm : sizes k.kids ≤ m := by omega
  have hlm := len_sizes k.kids
  clear hl hrow hkids ih hv hk
  generalize hkk : k.kids = ks at *
  clear hkk
  generalize k.kind = kk at *
  generalize k.name = kn at *
  have hbx : w.heap.size < (w.alloc (.cells #[.int .i64 kk, .int .i64 o, .string kn, .slice l.sA l.sn l.sc, .slice l.cA l.cn l.cc, .slice A ks.length c, .int .i64 a] 39)).heap.size := by simp
  go_enter Try.func11, Try.ntmps11
  go_wp2
  go_loopw [3, 4] (fun x q wr => ∃ i : Nat, i ≤ ks.length ∧ q = .int .i64 i ∧ x = .int .i64 ((sizes (ks.take i) + 1 : Nat) : Int) ∧ wr.heap[w.heap.size]? = some (.cells #[.int .i64 kk, .int .i64 o, .string kn, .slice l.sA l.sn l.sc, .slice l.cA l.cn l.cc, .slice A ks.length c, .int .i64 a] 39 (0, 0)) ∧ Below w.heap.size w wr) (fun _ q _ => ks.length - (intOf q).toNat)
  case atStart => exact ⟨0, Nat.zero_le _, rfl, rfl, blk_new w _, (Below.refl _ _).alloc (Nat.le_refl _) _⟩
  case round =>
   obtain ⟨i, hi, rfl, rfl, hbox, hb⟩ := hrel
   have c5 := blk_cell hbox 5
   have HBOX := Lib.hid hbox
   have HB := Lib.hid hb
   by_cases hlt : i < ks.length
   ·obtain ⟨kd, hkd⟩ : ∃ kd, ks[i]? = some kd := ⟨_, List.getElem?_eq_getElem hlt⟩
    obtain ⟨b, o', l', B, c', a', rfl, hbl, hna, e0, e1, e2, e3, e4, e5, e6⟩ := kid_cells HROW.out HK.out hb hkd
    have hks := size_kid hkd
    have hts := take_sizes ks i kd hkd
    have hst := sizes_take ks (i + 1)
    have hi0 : (0 : Int) ≤ (i : Int) := by omega
    have hi1 : (i : Int) < (ks.length : Int) := by omega
    have HNA := Lib.hid hna
    have hk1 : kd.size ≤ m := by have := HKM.out; omega
    obtain ⟨sz, hsz2⟩ : ∃ sz, sizes (ks.take i) + 1 = sz := ⟨_, rfl⟩
    rw [hsz2]
    have hw : IntKind.i64.wrap ((sz : Int) + (kd.size : Int)) = (sz : Int) + (kd.size : Int) := wraps_i64 _ (by omega) (by omega)
    have HTS := Lib.hid (show sizes (ks.take (i + 1)) + 1 = sz + kd.size by omega)
    clear hbox hb hna hkd hks hts hst hsz2
    go_wp2_with fail
    refine (IH.out kd _ wr hk1 (by omega) HNA.out).mono ?_
    rintro e w2 ⟨rfl, hb2⟩
    go_wp2
    go_roundw
    case rel => exact ⟨i + 1, by omega, by go_num, by rw [HTS.out]; go_num, blk_below HBOX.out hb2 (blk_lt HBOX.out), below_then HB.out HB.out.size hb2⟩
    case measure => simp [intOf]; omega
   ·obtain rfl : i = ks.length := by omega
    rw [List.take_length] at *
    have hks : sizes ks + 1 = k.size := hsz.symm
    rw [hks]
    clear hbox hb
    go_wp2
    refine bodyPost_ret (v := .int .i64 (k.size : Int)) (by simp [results, Try.results11, go_sem]) rfl ?_
    exact ⟨rfl, HB.out⟩
end Go.Proofs.Ytollglblkbjgjaa
