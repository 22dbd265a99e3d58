/- Contract of the reference's Same, for two programs that are the same but for their places. Conditions: both read in memory, their numbers without boxes. -/
import Derived.Test.YtollglblkbjgjaaGx
namespace Go.Proofs.Ytollglblkbjgjaa
open Go.RowKit

/-- an array without boxes reads in memory -/
def FlatAt (w : World) (A : Option Addr) (n : Nat) (B : Option Addr) (m : Nat) : Prop := n ≤ 9223372036854775000 ∧ m ≤ 9223372036854775000 ∧
 (0 < n → ∃ b off, A = some ⟨b, off, none⟩ ∧ ∀ i, i < n → ∃ x : Int, w.cell? ⟨b, off + i, none⟩ = some (.int .i64 x)) ∧
 (0 < m → ∃ b off, B = some ⟨b, off, none⟩ ∧ ∀ i, i < m → ∃ x y : Int, w.cell? ⟨b, off + i * 3, none⟩ = some (.int .i64 x) ∧ w.cell? ⟨b, off + i * 3 + 1, none⟩ = some (.int .i64 y) ∧ w.cell? ⟨b, off + i * 3 + 2, none⟩ = some (.slice none 0 0))
theorem FlatAt.below {w w' : World} {A B : Option Addr} {n m : Nat} (h : FlatAt w A n B m) (hb : Below w.heap.size w w') : FlatAt w' A n B m := by
 obtain ⟨h1, h2, h3, h4⟩ := h
 refine ⟨h1, h2, fun h0 => ?_, fun h0 => ?_⟩
 ·obtain ⟨b, off, e, k⟩ := h3 h0
  refine ⟨b, off, e, fun i hi => ?_⟩
  obtain ⟨x, hx⟩ := k i hi
  exact ⟨x, cell_below hb hx⟩
 ·obtain ⟨b, off, e, k⟩ := h4 h0
  refine ⟨b, off, e, fun i hi => ?_⟩
  obtain ⟨x, y, hx, hy, hz⟩ := k i hi
  exact ⟨x, y, cell_below hb hx, cell_below hb hy, cell_below hb hz⟩
theorem flat_zero (w : World) : FlatAt w none 0 none 0 := ⟨by omega, by omega, fun h => by omega, fun h => by omega⟩
set_option maxRecDepth 100000 in
theorem ints_same (a : Int) (w : World) : Calls Try.prog 36 #[.int .i64 a, .int .i64 a] w (fun e w' => e = .returned (.int .i64 0) ∧ w' = w) := by
 have h1 : decide (a < a) = false := decide_eq_false (by omega)
 go_enter Try.func36, Try.ntmps36
 go_wp2
 refine bodyPost_ret (v := .int .i64 0) (by simp [results, Try.results36, go_sem]) rfl ?_
 exact ⟨rfl, rfl⟩

set_option maxRecDepth 100000 in
theorem cell_same (k n : Int) (w : World) : Calls Try.prog 37 #[.agg #[.int .i64 k, .int .i64 n, .slice none 0 0], .agg #[.int .i64 k, .int .i64 n, .slice none 0 0]] w (fun e w' => e = .returned (.int .i64 0) ∧ Below w.heap.size w w') := by
 go_enter Try.func37, Try.ntmps37
 go_wp2_with fail
 refine (ints_same _ _).mono ?_
 rintro e w1 ⟨rfl, rfl⟩
 go_wp2_with fail
 refine (ints_same _ _).mono ?_
 rintro e w1 ⟨rfl, rfl⟩
 go_wp2_with fail
 refine (ints_same _ _).mono ?_
 rintro e w1 ⟨rfl, rfl⟩
 go_wp2
 refine bodyPost_ret (v := .int .i64 0) (by simp [results, Try.results37, go_sem]) rfl ?_
 exact ⟨rfl, ((Below.refl _ _).alloc (Nat.le_refl _) _).alloc (by simp) _⟩
set_option maxRecDepth 100000 in
set_option maxHeartbeats 4000000 in
theorem cmp_self {A B : Option Addr} {n2 c m2 d : Nat} (w : World) (hf : FlatAt w A n2 B m2) : Calls Try.prog 22 #[.agg #[.slice A n2 c, .slice B m2 d], .agg #[.slice A n2 c, .slice B m2 d]] w (fun e w' => e = .returned (.int .i64 0) ∧ Below w.heap.size w w') := by
 obtain ⟨hn, hm, hA, hB⟩ := hf
 have HA := Lib.hid hA
 have HB := Lib.hid hB
 clear hA hB
 go_enter Try.func22, Try.ntmps22
 go_wp2_with fail
 refine (ints_same _ _).mono ?_
 rintro e w1 ⟨rfl, rfl⟩
 generalize hR : w.heap.size = R
 have h0 : Below R w ((w.alloc (Obj.cells #[.slice A n2 c, .slice B m2 d] 36)).alloc (Obj.cells #[.slice A n2 c, .slice B m2 d] 36)) ∧ ((w.alloc (Obj.cells #[.slice A n2 c, .slice B m2 d] 36)).alloc (Obj.cells #[.slice A n2 c, .slice B m2 d] 36)).heap[R]? = some (.cells #[.slice A n2 c, .slice B m2 d] 36 (0, 0)) ∧ ((w.alloc (Obj.cells #[.slice A n2 c, .slice B m2 d] 36)).alloc (Obj.cells #[.slice A n2 c, .slice B m2 d] 36)).heap[R + 1]? = some (.cells #[.slice A n2 c, .slice B m2 d] 36 (0, 0)) := by
  rw [← hR]
  refine ⟨((Below.refl _ _).alloc (Nat.le_refl _) _).alloc (by simp) _, blk_alloc (blk_new w _) _, ?_⟩
  have := blk_new (w.alloc (Obj.cells #[.slice A n2 c, .slice B m2 d] 36)) (Obj.cells #[.slice A n2 c, .slice B m2 d] 36)
  rw [show (w.alloc (Obj.cells #[.slice A n2 c, .slice B m2 d] 36)).heap.size = w.heap.size + 1 by simp] at this
  exact this
 have HR := Lib.hid hR
 have H0 := Lib.hid h0
 clear hR h0
 go_wp2
 go_loopw [5, 6] (fun o i wr => ∃ k : Nat, k ≤ n2 ∧ i = .int .i64 k ∧ o = .int .i64 0 ∧ Below R w wr ∧ wr.heap[R]? = some (.cells #[.slice A n2 c, .slice B m2 d] 36 (0, 0)) ∧ wr.heap[R + 1]? = some (.cells #[.slice A n2 c, .slice B m2 d] 36 (0, 0))) (fun _ i _ => n2 - (intOf i).toNat)
 case atStart => exact ⟨0, Nat.zero_le _, rfl, rfl, H0.out⟩
 case round =>
  obtain ⟨k, hk, rfl, rfl, hbel, hb1, hb2⟩ := hrel
  have x0 := blk_cell hb1 0
  have x1 := blk_cell hb1 1
  have y0 := blk_cell hb2 0
  have y1 := blk_cell hb2 1
  by_cases hlt : k < n2
  ·obtain ⟨p, off, rfl, hall⟩ := HA.out (by omega)
   obtain ⟨x, cx⟩ := hall k hlt
   have hp := World.block_lt_of_cell? _ _ cx
   have cp := (hbel.cell (p := ⟨p, off + k, none⟩) (by rw [← HR.out]; exact hp)).trans cx
   have hp2 : p < wr.heap.size := World.block_lt_of_cell? _ _ cp
   have hj0 : (0 : Int) ≤ (k : Int) := by omega
   have hj1 : (k : Int) < (n2 : Int) := by omega
   have HBEL := Lib.hid hbel
   have HB1 := Lib.hid hb1
   have HB2' := Lib.hid hb2
   clear hbel hb1 hb2
   go_wp2
   go_quiet ((go_at_call 36; exact Calls.quiet_of_same (ints_same _ _)))
   go_wp2
   go_roundw
   case rel => exact ⟨k + 1, by omega, by go_num, rfl, below_drewN HBEL.out _, by simpa using HB1.out, by simpa using HB2'.out⟩
   case measure => simp [intOf]; omega
  ·obtain rfl : n2 = k := by omega
   have HBEL := Lib.hid hbel
   have HB1 := Lib.hid hb1
   have HB2' := Lib.hid hb2
   clear hbel hb1 hb2
   go_wp2
   clear x0 x1 y0 y1
   go_loopw [5, 7] (fun o i wr => ∃ k : Nat, k ≤ m2 ∧ i = .int .i64 k ∧ o = .int .i64 0 ∧ Below R w wr ∧ wr.heap[R]? = some (.cells #[.slice A n2 c, .slice B m2 d] 36 (0, 0)) ∧ wr.heap[R + 1]? = some (.cells #[.slice A n2 c, .slice B m2 d] 36 (0, 0))) (fun _ i _ => m2 - (intOf i).toNat)
   case atStart => exact ⟨0, Nat.zero_le _, rfl, rfl, HBEL.out, HB1.out, HB2'.out⟩
   case round =>
    obtain ⟨k, hk, rfl, rfl, hbel, hb1, hb2⟩ := hrel
    have x0 := blk_cell hb1 0
    have x1 := blk_cell hb1 1
    have y0 := blk_cell hb2 0
    have y1 := blk_cell hb2 1
    by_cases hlt : k < m2
    ·obtain ⟨p, off, rfl, hall⟩ := HB.out (by omega)
     obtain ⟨ck, cn, cx0, cx1, cx2⟩ := hall k hlt
     have hp := World.block_lt_of_cell? _ _ cx0
     have cp := (hbel.cell (p := ⟨p, off + k * 3, none⟩) (by rw [← HR.out]; exact hp)).trans cx0
     have cp1 := (hbel.cell (p := ⟨p, off + k * 3 + 1, none⟩) (by rw [← HR.out]; exact hp)).trans cx1
     have cp2 := (hbel.cell (p := ⟨p, off + k * 3 + 2, none⟩) (by rw [← HR.out]; exact hp)).trans cx2
     have hp2 : p < wr.heap.size := World.block_lt_of_cell? _ _ cp
     have hj0 : (0 : Int) ≤ (k : Int) := by omega
     have hj1 : (k : Int) < (m2 : Int) := by omega
     clear hall
     have HBEL := Lib.hid hbel
     have HB1 := Lib.hid hb1
     have HB2' := Lib.hid hb2
     have HHp := Lib.hid hp
     have hRs := Lib.hid (blk_lt hb1)
     have hRs2 := Lib.hid (blk_lt hb2)
     clear hbel hb1 hb2
     go_wp2
     go_region_with (go_at_call 37; refine (cell_same _ _ _).mono ?_; rintro e w3 ⟨rfl, hb3⟩)
     all_goals
      have q1 := below_then HBEL.out.drew (by have := HBEL.out.drew.size; rw [HR.out] at this; exact this) hb3
      have q2 := blk_below (w := wr) HB1.out ((Below.refl _ _).drew.trans hb3) hRs.out
      have q3 := blk_below (w := wr) HB2'.out ((Below.refl _ _).drew.trans hb3) hRs2.out
      have Q1 := Lib.hid q1
      have Q2 := Lib.hid q2
      have Q3 := Lib.hid q3
      clear q1 q2 q3 hb3
      go_wp2
      go_roundw
      case rel => exact ⟨k + 1, by omega, by go_num, rfl, Q1.out, Q2.out, Q3.out⟩
      case measure => simp [intOf]; omega
    ·obtain rfl : m2 = k := by omega
     go_wp2_with fail
     refine (ints_same _ _).mono ?_
     rintro e w1 ⟨rfl, rfl⟩
     go_wp2
     refine bodyPost_ret (v := .int .i64 0) (by simp [results, Try.results22, go_sem]) rfl ?_
     exact ⟨rfl, HR.out ▸ hbel⟩
end Go.Proofs.Ytollglblkbjgjaa
namespace Go.Proofs.Ytollglblkbjgjaa
open Go.RowKit

mutual
/-- a part without its places -/
def Nd.bare : Nd → Nd
 | .mk k o nm l ks _ => .mk k o nm l (bares ks) 0
def bares : List Nd → List Nd
 | [] => []
 | k :: ks => k.bare :: bares ks
end
mutual
/-- the literals in a part -/
def Nd.lits : Nd → List Lt
 | .mk _ _ _ l ks _ => l :: litss ks
def litss : List Nd → List Lt
 | [] => []
 | k :: ks => k.lits ++ litss ks
end
theorem bares_map : ∀ ks : List Nd, bares ks = ks.map Nd.bare
 | [] => rfl
 | k :: ks => by rw [bares, bares_map ks]; rfl
theorem litss_mem : ∀ {ks : List Nd} {i : Nat} {k : Nd} {l : Lt}, ks[i]? = some k → l ∈ k.lits → l ∈ litss ks
 | [], _, _, _, h, _ => by simp at h
 | x :: ks, 0, k, l, h, hl => by
  simp at h
  subst h
  exact List.mem_append.2 (.inl hl)
 | x :: ks, i + 1, k, l, h, hl => List.mem_append.2 (.inr (litss_mem (i := i) (by simpa using h) hl))
theorem Nd.lits_eq (k : Nd) : k.lits = k.lit :: litss k.kids := by
 obtain ⟨kk, o, nm, l, ks, a⟩ := k
 rfl
def Nd.op : Nd → Int | .mk _ o _ _ _ _ => o
def FlatL (w : World) (l : Lt) : Prop := FlatAt w l.sA l.sn l.cA l.cn
theorem NdAt.form2 {S : Nat → Prop} {w : World} {v : Value} {n : Nd} (h : NdAt S w v n) : ∃ (A : Option Addr) (c : Nat) (a : Int) (vs : List Value), v = .agg #[.int .i64 n.kind, .int .i64 n.op, .string n.name, .slice n.lit.sA n.lit.sn n.lit.sc, .slice n.lit.cA n.lit.cn n.lit.cc, .slice A n.kids.length c, .int .i64 a] ∧ RowIn S w A vs ∧ NdsAt S w vs n.kids := by
 obtain ⟨k, o, nm, l, ks, a⟩ := n
 simp only [NdAt] at h
 obtain ⟨A, c, vs, h1, h2, h3, h4⟩ := h
 exact ⟨A, c, a, vs, h1, h3, h4⟩
theorem bare_eq {k k' : Nd} (h : k.bare = k'.bare) : k'.kind = k.kind ∧ k'.op = k.op ∧ k'.name = k.name ∧ k'.lit = k.lit ∧ bares k'.kids = bares k.kids := by
 obtain ⟨kk, o, nm, l, ks, a⟩ := k
 obtain ⟨kk', o', nm', l', ks', a'⟩ := k'
 simp only [Nd.bare, Nd.mk.injEq, and_true] at h
 obtain ⟨h1, h2, h3, h4, h5⟩ := h
 exact ⟨h1.symm, h2.symm, h3.symm, h4.symm, h5.symm⟩
theorem bares_len {a b : List Nd} (h : bares a = bares b) : a.length = b.length := by
 rw [bares_map, bares_map] at h
 have := congrArg List.length h
 simpa using this
theorem bares_get {a b : List Nd} (h : bares a = bares b) {i : Nat} {x y : Nd} (hx : a[i]? = some x) (hy : b[i]? = some y) : x.bare = y.bare := by
 rw [bares_map, bares_map] at h
 have := congrArg (fun l => l[i]?) h
 simpa [hx, hy] using this
set_option maxRecDepth 100000 in
set_option maxHeartbeats 8000000 in
theorem same_any {S T : Nat → Prop} : ∀ (m : Nat) (k k' : Nd) (v v' : Value) (w : World), k.size ≤ m → m ≤ 1000000 → k.bare = k'.bare → NdAt S w v k → NdAt T w v' k' → (∀ l ∈ k.lits, FlatL w l) → Calls Try.prog 10 #[v, v'] w (fun e w' => e = .returned (.bool true) ∧ Below w.heap.size w w') := by
 intro m
 induction m with
 | zero => intro k k' v v' w hk; have := k.size_pos; omega
 | succ m ih =>
  intro k k' v v' w hk hm hlike hv hv' hfl
  have IH := Lib.hid ih
  obtain ⟨A, c, a, vs, rfl, hrow, hkids⟩ := hv.form2
  obtain ⟨A2, c2, a2, vs2, rfl, hrow2, hkids2⟩ := hv'.form2
  obtain ⟨e1, e2, e3, e4, e5⟩ := bare_eq hlike
  rw [e1, e2, e3, e4, bares_len e5]
  have hsz := k.size_kids
  have HROW := Lib.hid hrow
  have HK := Lib.hid hkids
  have HROW2 := Lib.hid hrow2
  have HK2 := Lib.hid hkids2
  have HBE := Lib.hid e5
  have HFL := Lib.hid (show ∀ (i : Nat) (x : Nd), k.kids[i]? = some x → ∀ l ∈ x.lits, FlatL w l from fun i x hx l hl => hfl l (by rw [k.lits_eq]; exact List.mem_cons_of_mem _ (litss_mem hx hl)))
  have hf0 : FlatL w k.lit := hfl _ (by rw [k.lits_eq]; exact List.mem_cons_self)
  have HF0 := Lib.hid hf0
  have HKM := Lib.hid hk
  have hsm : sizes k.kids ≤ m := by omega
  have hlm := len_sizes k.kids
  have hlen2 : k'.kids.length = k.kids.length := bares_len e5
  clear hrow hkids hrow2 hkids2 ih hv hv' hk hfl hlike e1 e2 e3 e4 e5 hf0
  generalize hkk : k.kids = ks at *
  generalize hkk2 : k'.kids = ks2 at *
  clear hkk hkk2
  generalize k.kind = kk at *
  generalize k.name = kn at *
  generalize k.op = o at *
  generalize k.lit = l at *
  generalize hnn : ks.length = n at *
  have HNN := Lib.hid hnn
  clear hnn
  go_enter Try.func10, Try.ntmps10
  go_wp2_with fail
  generalize hR : w.heap.size = R
  have h0 : Below R w ((w.alloc (.cells #[.int .i64 kk, .int .i64 o, .string kn, .slice l.sA l.sn l.sc, .slice l.cA l.cn l.cc, .slice A n c, .int .i64 a] 39)).alloc (.cells #[.int .i64 kk, .int .i64 o, .string kn, .slice l.sA l.sn l.sc, .slice l.cA l.cn l.cc, .slice A2 n c2, .int .i64 a2] 39)) ∧ ((w.alloc (.cells #[.int .i64 kk, .int .i64 o, .string kn, .slice l.sA l.sn l.sc, .slice l.cA l.cn l.cc, .slice A n c, .int .i64 a] 39)).alloc (.cells #[.int .i64 kk, .int .i64 o, .string kn, .slice l.sA l.sn l.sc, .slice l.cA l.cn l.cc, .slice A2 n c2, .int .i64 a2] 39)).heap[R]? = some (.cells #[.int .i64 kk, .int .i64 o, .string kn, .slice l.sA l.sn l.sc, .slice l.cA l.cn l.cc, .slice A n c, .int .i64 a] 39 (0, 0)) ∧ ((w.alloc (.cells #[.int .i64 kk, .int .i64 o, .string kn, .slice l.sA l.sn l.sc, .slice l.cA l.cn l.cc, .slice A n c, .int .i64 a] 39)).alloc (.cells #[.int .i64 kk, .int .i64 o, .string kn, .slice l.sA l.sn l.sc, .slice l.cA l.cn l.cc, .slice A2 n c2, .int .i64 a2] 39)).heap[R + 1]? = some (.cells #[.int .i64 kk, .int .i64 o, .string kn, .slice l.sA l.sn l.sc, .slice l.cA l.cn l.cc, .slice A2 n c2, .int .i64 a2] 39 (0, 0)) := by
   rw [← hR]
   refine ⟨((Below.refl _ _).alloc (Nat.le_refl _) _).alloc (by simp) _, blk_alloc (blk_new w _) _, ?_⟩
   have := blk_new (w.alloc (.cells #[.int .i64 kk, .int .i64 o, .string kn, .slice l.sA l.sn l.sc, .slice l.cA l.cn l.cc, .slice A n c, .int .i64 a] 39)) (.cells #[.int .i64 kk, .int .i64 o, .string kn, .slice l.sA l.sn l.sc, .slice l.cA l.cn l.cc, .slice A2 n c2, .int .i64 a2] 39)
   rw [show (w.alloc (.cells #[.int .i64 kk, .int .i64 o, .string kn, .slice l.sA l.sn l.sc, .slice l.cA l.cn l.cc, .slice A n c, .int .i64 a] 39)).heap.size = w.heap.size + 1 by simp] at this
   exact this
  have HR := Lib.hid hR
  have H0 := Lib.hid h0
  clear hR h0
  refine (cmp_self _ (HF0.out.below (HR.out ▸ H0.out.1))).mono ?_
  rintro e w1 ⟨rfl, h1⟩
  have hs : R + 1 < ((w.alloc (.cells #[.int .i64 kk, .int .i64 o, .string kn, .slice l.sA l.sn l.sc, .slice l.cA l.cn l.cc, .slice A n c, .int .i64 a] 39)).alloc (.cells #[.int .i64 kk, .int .i64 o, .string kn, .slice l.sA l.sn l.sc, .slice l.cA l.cn l.cc, .slice A2 n c2, .int .i64 a2] 39)).heap.size := by rw [← HR.out]; simp
  have H1 := Lib.hid (show Below R w w1 ∧ w1.heap[R]? = some (.cells #[.int .i64 kk, .int .i64 o, .string kn, .slice l.sA l.sn l.sc, .slice l.cA l.cn l.cc, .slice A n c, .int .i64 a] 39 (0, 0)) ∧ w1.heap[R + 1]? = some (.cells #[.int .i64 kk, .int .i64 o, .string kn, .slice l.sA l.sn l.sc, .slice l.cA l.cn l.cc, .slice A2 n c2, .int .i64 a2] 39 (0, 0)) from ⟨H0.out.1.trans (h1.mono (by omega)), blk_below H0.out.2.1 h1 (by omega), blk_below H0.out.2.2 h1 (by omega)⟩)
  clear h1 hs H0
  go_wp2
  go_loopw [5] (fun q wr => ∃ i : Nat, i ≤ n ∧ q = .int .i64 i ∧ Below R w wr ∧ wr.heap[R]? = some (.cells #[.int .i64 kk, .int .i64 o, .string kn, .slice l.sA l.sn l.sc, .slice l.cA l.cn l.cc, .slice A n c, .int .i64 a] 39 (0, 0)) ∧ wr.heap[R + 1]? = some (.cells #[.int .i64 kk, .int .i64 o, .string kn, .slice l.sA l.sn l.sc, .slice l.cA l.cn l.cc, .slice A2 n c2, .int .i64 a2] 39 (0, 0))) (fun q _ => n - (intOf q).toNat)
  case atStart => exact ⟨0, Nat.zero_le _, rfl, H1.out⟩
  case round =>
   obtain ⟨i, hi, rfl, hb, hb1, hb2⟩ := hrel
   have x5 := blk_cell hb1 5
   have y5 := blk_cell hb2 5
   have HBEL := Lib.hid hb
   have HB1 := Lib.hid hb1
   have HB2 := Lib.hid hb2
   by_cases hlt : i < n
   ·obtain ⟨x1, hx1⟩ : ∃ x, ks[i]? = some x := ⟨_, List.getElem?_eq_getElem (by rw [HNN.out]; exact hlt)⟩
    obtain ⟨x2, hx2⟩ : ∃ x, ks2[i]? = some x := ⟨_, List.getElem?_eq_getElem (by omega)⟩
    obtain ⟨b1, o1, l1, B1, d1, a1', rfl, hbl1, hna1, p0, p1, p2, p3, p4, p5, p6⟩ := kid_cells HROW.out HK.out (HR.out ▸ hb) hx1
    obtain ⟨b2, o2, l2, B2, d2, a2', rfl, hbl2, hna2, q0, q1, q2, q3, q4, q5, q6⟩ := kid_cells HROW2.out HK2.out (HR.out ▸ hb) hx2
    have hbe := bares_get HBE.out.symm hx1 hx2
    have hks := size_kid hx1
    have hi0 : (0 : Int) ≤ (i : Int) := by omega
    have hi1 : (i : Int) < (n : Int) := by omega
    have HN1 := Lib.hid hna1
    have HN2 := Lib.hid hna2
    have HSA := Lib.hid (IH.out x1 x2 _ _ wr.drew (by omega) (by omega) hbe (hna1.below (Below.refl _ _).drew) (hna2.below (Below.refl _ _).drew) (fun l hl => FlatAt.below (HFL.out i x1 hx1 l hl) (HR.out ▸ hb.drew)))
    have hRs := blk_lt hb1
    have hRs2 := blk_lt hb2
    have E0 := Lib.hid (show ∀ w', Below wr.heap.size wr w' → w'.cell? ⟨R, 5, none⟩ = some (.slice (some ⟨b1, 0, none⟩) n c) ∧ w'.cell? ⟨R + 1, 5, none⟩ = some (.slice (some ⟨b2, 0, none⟩) n c2) ∧ w'.cell? ⟨b1, i * 7, none⟩ = some (.int .i64 x1.kind) ∧ w'.cell? ⟨b1, i * 7 + 1, none⟩ = some (.int .i64 o1) ∧ w'.cell? ⟨b1, i * 7 + 2, none⟩ = some (.string x1.name) ∧ w'.cell? ⟨b1, i * 7 + 3, none⟩ = some (.slice l1.sA l1.sn l1.sc) ∧ w'.cell? ⟨b1, i * 7 + 4, none⟩ = some (.slice l1.cA l1.cn l1.cc) ∧ w'.cell? ⟨b1, i * 7 + 5, none⟩ = some (.slice B1 x1.kids.length d1) ∧ w'.cell? ⟨b1, i * 7 + 6, none⟩ = some (.int .i64 a1') ∧ w'.cell? ⟨b2, i * 7, none⟩ = some (.int .i64 x2.kind) ∧ w'.cell? ⟨b2, i * 7 + 1, none⟩ = some (.int .i64 o2) ∧ w'.cell? ⟨b2, i * 7 + 2, none⟩ = some (.string x2.name) ∧ w'.cell? ⟨b2, i * 7 + 3, none⟩ = some (.slice l2.sA l2.sn l2.sc) ∧ w'.cell? ⟨b2, i * 7 + 4, none⟩ = some (.slice l2.cA l2.cn l2.cc) ∧ w'.cell? ⟨b2, i * 7 + 5, none⟩ = some (.slice B2 x2.kids.length d2) ∧ w'.cell? ⟨b2, i * 7 + 6, none⟩ = some (.int .i64 a2') from fun w' h => ⟨cell_below h x5, cell_below h y5, cell_below h p0, cell_below h p1, cell_below h p2, cell_below h p3, cell_below h p4, cell_below h p5, cell_below h p6, cell_below h q0, cell_below h q1, cell_below h q2, cell_below h q3, cell_below h q4, cell_below h q5, cell_below h q6⟩)
    clear hb hb1 hb2 hbe hna1 hna2 hx1 hx2
    go_wp2_with fail
    go_region_held3 (fun w' => w'.cell? ⟨R, 5, none⟩ = some (.slice (some ⟨b1, 0, none⟩) n c) ∧ w'.cell? ⟨R + 1, 5, none⟩ = some (.slice (some ⟨b2, 0, none⟩) n c2) ∧ w'.cell? ⟨b1, i * 7, none⟩ = some (.int .i64 x1.kind) ∧ w'.cell? ⟨b1, i * 7 + 1, none⟩ = some (.int .i64 o1) ∧ w'.cell? ⟨b1, i * 7 + 2, none⟩ = some (.string x1.name) ∧ w'.cell? ⟨b1, i * 7 + 3, none⟩ = some (.slice l1.sA l1.sn l1.sc) ∧ w'.cell? ⟨b1, i * 7 + 4, none⟩ = some (.slice l1.cA l1.cn l1.cc) ∧ w'.cell? ⟨b1, i * 7 + 5, none⟩ = some (.slice B1 x1.kids.length d1) ∧ w'.cell? ⟨b1, i * 7 + 6, none⟩ = some (.int .i64 a1') ∧ w'.cell? ⟨b2, i * 7, none⟩ = some (.int .i64 x2.kind) ∧ w'.cell? ⟨b2, i * 7 + 1, none⟩ = some (.int .i64 o2) ∧ w'.cell? ⟨b2, i * 7 + 2, none⟩ = some (.string x2.name) ∧ w'.cell? ⟨b2, i * 7 + 3, none⟩ = some (.slice l2.sA l2.sn l2.sc) ∧ w'.cell? ⟨b2, i * 7 + 4, none⟩ = some (.slice l2.cA l2.cn l2.cc) ∧ w'.cell? ⟨b2, i * 7 + 5, none⟩ = some (.slice B2 x2.kids.length d2) ∧ w'.cell? ⟨b2, i * 7 + 6, none⟩ = some (.int .i64 a2'))
     (first | go_keep | exact E0.out _ H8.out | exact E0.out _ (Below.refl _ _).drew)
     (first
        | (go_at_call 10; (with_reducible refine HSA.out.mono ?_); rintro e w8 ⟨rfl, hb8⟩; have H8 := Lib.hid (show Below wr.heap.size wr w8 from ⟨hb8.os, hb8.tape, hb8.output, hb8.size, hb8.block⟩); clear hb8)
        | fail)
    all_goals
     have HX := Lib.hid (show Below R w w8 ∧ w8.heap[R]? = some (.cells #[.int .i64 kk, .int .i64 o, .string kn, .slice l.sA l.sn l.sc, .slice l.cA l.cn l.cc, .slice (some ⟨b1, 0, none⟩) n c, .int .i64 a] 39 (0, 0)) ∧ w8.heap[R + 1]? = some (.cells #[.int .i64 kk, .int .i64 o, .string kn, .slice l.sA l.sn l.sc, .slice l.cA l.cn l.cc, .slice (some ⟨b2, 0, none⟩) n c2, .int .i64 a2] 39 (0, 0)) from ⟨HBEL.out.trans (H8.out.mono (by omega)), blk_below HB1.out H8.out (by omega), blk_below HB2.out H8.out (by omega)⟩)
     clear E0 HSA HBEL HB1 HB2 H8 p0 q0 p1 q1 p2 q2 p3 q3 p4 q4 p5 q5 p6 q6 x5 y5
     go_wp2
     go_roundw
     case rel => exact ⟨i + 1, by omega, by go_num, HX.out⟩
     case measure => simp [intOf]; omega
   ·obtain rfl : i = n := by omega
    clear hb hb1 hb2
    go_wp2
    refine bodyPost_ret (v := .bool true) (by simp [results, Try.results10, go_sem]) rfl ?_
    exact ⟨rfl, HR.out ▸ HBEL.out⟩
end Go.Proofs.Ytollglblkbjgjaa
