/- Contract of righted: an expression whose one argument is the right one, in memory. Conditions: the part reads in memory. -/
import Derived.Test.YtollglblkbjgjaaGkM
namespace Go.Proofs.Ytollglblkbjgjaa
open Go.RowKit

theorem seven_one (k o : Int) (n : ByteArray) (A : Option Addr) (x y : Nat) (B : Option Addr) (z u : Nat) (C : Option Addr) (r t : Nat) (p : Int) : ∀ v ∈ ([.int .i64 k, .int .i64 o, .string n, .slice A x y, .slice B z u, .slice C r t, .int .i64 p] : List Value), v.oneCell' = true := by
 intro v hv
 simp only [List.mem_cons, List.not_mem_nil, or_false] at hv
 rcases hv with rfl | rfl | rfl | rfl | rfl | rfl | rfl <;> rfl
/-- a part with its blocks in S or new -/
def Makes (S : Nat → Prop) (k : Nd) (w : World) (e : Ending) (w' : World) : Prop := ∃ v, e = .returned v ∧ NdAt (fun b => S b ∨ w.heap.size ≤ b) w' v k ∧ Below w.heap.size w w'
/-- the loop of righted, as it stands -/
def RLoop (S : Nat → Prop) (w : World) (K o : Int) (kn : ByteArray) (l : Lt) (a : Int) (ks : List Nd) (q : Value) (wr : World) : Prop :=
 ∃ (i : Nat) (vA : Option Addr) (vc : Nat) (vs' : List Value), i ≤ ks.length ∧ q = .int .i64 i ∧ wr.heap[w.heap.size]? = some (.cells #[.int .i64 K, .int .i64 o, .string kn, .slice l.sA l.sn l.sc, .slice l.cA l.cn l.cc, .slice vA i vc, .int .i64 a] 39 (0, 0)) ∧ wr.heap[w.heap.size + 1]? = some (.cells #[.int .i64 0, .int .i64 0, .string ⟨#[]⟩, .slice none 0 0, .slice none 0 0, .slice none 0 0, .int .i64 0] 39 (0, 0)) ∧ wr.ownsRow (w.heap.size + 2) 39 7 (.slice vA i vc) i vs' ∧
  NdsAt (fun b => ((S b ∧ b < w.heap.size) ∨ w.heap.size + 2 ≤ b) ∧ Value.ownBlock (.slice vA i vc) ≠ some b) wr vs' (righteds (ks.take i)) ∧ Below w.heap.size w wr
/-- seven cells are laid into a block -/
def sevenSet (w : World) (B : Nat) (a0 a1 a2 a3 a4 a5 a6 : Value) : World := ((((((w.setCell ⟨B, 0, none⟩ a0).setCell ⟨B, 1, none⟩ a1).setCell ⟨B, 2, none⟩ a2).setCell ⟨B, 3, none⟩ a3).setCell ⟨B, 4, none⟩ a4).setCell ⟨B, 5, none⟩ a5).setCell ⟨B, 6, none⟩ a6
theorem seven_blk {w : World} {B : Nat} {o0 o1 o2 o3 o4 o5 o6 : Value} (h0 : w.heap[B]? = some (.cells #[o0, o1, o2, o3, o4, o5, o6] 39 (0, 0))) (a0 a1 a2 a3 a4 a5 a6 : Value) : (sevenSet w B a0 a1 a2 a3 a4 a5 a6).heap[B]? = some (.cells #[a0, a1, a2, a3, a4, a5, a6] 39 (0, 0)) := by
 have g0 := blk_set (blk_set (blk_set (blk_set (blk_set (blk_set (blk_set h0 0 a0) 1 a1) 2 a2) 3 a3) 4 a4) 5 a5) 6 a6
 simpa [sevenSet] using g0
theorem seven_cells {w : World} {B : Nat} {o0 o1 o2 o3 o4 o5 o6 : Value} (h0 : w.heap[B]? = some (.cells #[o0, o1, o2, o3, o4, o5, o6] 39 (0, 0))) (a0 a1 a2 a3 a4 a5 a6 : Value) :
  (sevenSet w B a0 a1 a2 a3 a4 a5 a6).cell? ⟨B, 0, none⟩ = some a0 ∧ (sevenSet w B a0 a1 a2 a3 a4 a5 a6).cell? ⟨B, 1, none⟩ = some a1 ∧ (sevenSet w B a0 a1 a2 a3 a4 a5 a6).cell? ⟨B, 2, none⟩ = some a2 ∧ (sevenSet w B a0 a1 a2 a3 a4 a5 a6).cell? ⟨B, 3, none⟩ = some a3 ∧ (sevenSet w B a0 a1 a2 a3 a4 a5 a6).cell? ⟨B, 4, none⟩ = some a4 ∧ (sevenSet w B a0 a1 a2 a3 a4 a5 a6).cell? ⟨B, 5, none⟩ = some a5 ∧ (sevenSet w B a0 a1 a2 a3 a4 a5 a6).cell? ⟨B, 6, none⟩ = some a6 := by
 have g0 := seven_blk h0 a0 a1 a2 a3 a4 a5 a6
 exact ⟨blk_cell g0 0, blk_cell g0 1, blk_cell g0 2, blk_cell g0 3, blk_cell g0 4, blk_cell g0 5, blk_cell g0 6⟩
theorem seven_below {w w' : World} {B : Nat} (hb : Below w.heap.size w w') (hB : w.heap.size ≤ B) (a0 a1 a2 a3 a4 a5 a6 : Value) : Below w.heap.size w (sevenSet w' B a0 a1 a2 a3 a4 a5 a6) :=
 ((((((hb.setCell (p := ⟨B, 0, none⟩) (by simpa using hB) _).setCell (p := ⟨B, 1, none⟩) (by simpa using hB) _).setCell (p := ⟨B, 2, none⟩) (by simpa using hB) _).setCell (p := ⟨B, 3, none⟩) (by simpa using hB) _).setCell (p := ⟨B, 4, none⟩) (by simpa using hB) _).setCell (p := ⟨B, 5, none⟩) (by simpa using hB) _).setCell (p := ⟨B, 6, none⟩) (by simpa using hB) _
theorem seven_heap (w : World) (B b : Nat) (hb : b ≠ B) (a0 a1 a2 a3 a4 a5 a6 : Value) : (sevenSet w B a0 a1 a2 a3 a4 a5 a6).heap[b]? = w.heap[b]? := by
 unfold sevenSet
 have q : ∀ (W : World) (p : Addr) (u : Value), p.block = B → (W.setCell p u).heap[b]? = W.heap[b]? := fun W p u hp => Below.heap_setCell W p u b (by rw [hp]; exact hb)
 rw [q _ _ _ rfl, q _ _ _ rfl, q _ _ _ rfl, q _ _ _ rfl, q _ _ _ rfl, q _ _ _ rfl, q _ _ _ rfl]
theorem seven_size (w : World) (B : Nat) (a0 a1 a2 a3 a4 a5 a6 : Value) : (sevenSet w B a0 a1 a2 a3 a4 a5 a6).heap.size = w.heap.size := by simp [sevenSet, World.setCell]
set_option maxRecDepth 100000 in
set_option maxHeartbeats 8000000 in
theorem righted_any : ∀ (m : Nat), m ≤ 1000000 → ∀ (S : Nat → Prop) (k : Nd) (v : Value) (w : World), k.size ≤ m → NdAt S w v k → Calls Try.prog 79 #[v] w (Makes S k.righted w) := by
 obtain ⟨i0, hi0, hz0, hz1, hz2⟩ := info_parts info39
 intro m
 induction m with
 | zero => intro _ S k v w hk; have := k.size_pos; omega
 | succ m ih0 =>
  intro hm S k v w hk hv
  have IH := Lib.hid (ih0 (by omega))
  clear ih0
  have HV := Lib.hid hv
  obtain ⟨o, l, A, c, a, vs, rfl, hl, hcc, hrow, hkids⟩ := hv.form
  have hsz := k.size_kids
  have hlen := len_sizes k.kids
  have hsk : sizes k.kids ≤ m := by omega
  obtain ⟨kk, ko, kn, kl, ks, ka⟩ := k
  dsimp only [Nd.kind, Nd.name, Nd.kids, Nd.lit] at *
  subst hl
  have hform : NdAt S w (.agg #[.int .i64 kk, .int .i64 o, .string kn, .slice l.sA l.sn l.sc, .slice l.cA l.cn l.cc, .slice A ks.length c, .int .i64 a]) (.mk kk ko kn l ks ka) := HV.out
  have hoa : o = ko ∧ a = ka := by
   simp only [NdAt] at hform
   obtain ⟨A', c', vs', h1, _⟩ := hform
   simp only [Value.agg.injEq, Array.mk.injEq, List.cons.injEq, Value.int.injEq, true_and, and_true] at h1
   exact ⟨h1.1, h1.2.2⟩
  obtain ⟨rfl, rfl⟩ := hoa
  have HROW := Lib.hid (hrow.mono (T := fun b => S b ∧ b < w.heap.size) (Nat.le_refl _) (fun b hS hlt => ⟨⟨hS, hlt⟩, rfl⟩))
  have HK := Lib.hid (hkids.mono (T := fun b => S b ∧ b < w.heap.size) (Nat.le_refl _) (fun b hS hlt => ⟨⟨hS, hlt⟩, rfl⟩))
  clear hrow hkids hv hform hsz hk
  obtain ⟨R, hR⟩ : ∃ R, (Nd.mk kk o kn l ks a).righted = R := ⟨_, rfl⟩
  rw [hR]
  rw [Nd.righted] at hR
  by_cases h2 : kk = 22 ∨ kk = 23
  ·rw [if_pos h2] at hR
   subst hR
   have b3 : (kk == 3) = false := beq_eq_false_iff_ne.2 (by omega)
   have hfin : ∀ w', Below w.heap.size w w' → NdAt (fun b => S b ∨ w.heap.size ≤ b) w' (.agg #[.int .i64 kk, .int .i64 o, .string kn, .slice l.sA l.sn l.sc, .slice l.cA l.cn l.cc, .slice A ks.length c, .int .i64 a]) (.mk kk o kn l ks a) := fun w' hb => HV.out.mono hb.size (fun b hS hlt => ⟨.inl hS, hb.block b hlt⟩)
   have HFIN := Lib.hid hfin
   clear hfin
   have hb0 : Below w.heap.size w ((w.alloc (.cells #[.int .i64 kk, .int .i64 o, .string kn, .slice l.sA l.sn l.sc, .slice l.cA l.cn l.cc, .slice A ks.length c, .int .i64 a] 39)).alloc (.cells #[.int .i64 0, .int .i64 0, .string ⟨#[]⟩, .slice none 0 0, .slice none 0 0, .slice none 0 0, .int .i64 0] 39)) := ((Below.refl _ w).alloc (Nat.le_refl _) _).alloc (by simp) _
   have HZ := Lib.hid (show ((w.alloc (.cells #[.int .i64 kk, .int .i64 o, .string kn, .slice l.sA l.sn l.sc, .slice l.cA l.cn l.cc, .slice A ks.length c, .int .i64 a] 39)).alloc (.cells #[.int .i64 0, .int .i64 0, .string ⟨#[]⟩, .slice none 0 0, .slice none 0 0, .slice none 0 0, .int .i64 0] 39)).heap[w.heap.size + 1]? = some (.cells #[.int .i64 0, .int .i64 0, .string ⟨#[]⟩, .slice none 0 0, .slice none 0 0, .slice none 0 0, .int .i64 0] 39 (0, 0)) from by
    have := blk_new (w.alloc (.cells #[.int .i64 kk, .int .i64 o, .string kn, .slice l.sA l.sn l.sc, .slice l.cA l.cn l.cc, .slice A ks.length c, .int .i64 a] 39)) (.cells #[.int .i64 0, .int .i64 0, .string ⟨#[]⟩, .slice none 0 0, .slice none 0 0, .slice none 0 0, .int .i64 0] 39)
    rw [show (w.alloc (.cells #[.int .i64 kk, .int .i64 o, .string kn, .slice l.sA l.sn l.sc, .slice l.cA l.cn l.cc, .slice A ks.length c, .int .i64 a] 39)).heap.size = w.heap.size + 1 by simp] at this
    exact this)
   have HB0 := Lib.hid hb0
   clear hb0
   rcases h2 with rfl | rfl
   ·go_enter Try.func79, Try.ntmps79
    go_wp2_with fail
    refine bodyPost_ret (v := .agg #[.int .i64 22, .int .i64 o, .string kn, .slice l.sA l.sn l.sc, .slice l.cA l.cn l.cc, .slice A ks.length c, .int .i64 a]) (by simp [results, Try.results79, go_sem]) rfl ?_
    exact ⟨_, rfl, HFIN.out _ (((Below.refl _ w).alloc (Nat.le_refl _) _).alloc (by simp) _), ((Below.refl _ w).alloc (Nat.le_refl _) _).alloc (by simp) _⟩
   ·go_enter Try.func79, Try.ntmps79
    go_wp2_with fail
    refine bodyPost_ret (v := .agg #[.int .i64 23, .int .i64 o, .string kn, .slice l.sA l.sn l.sc, .slice l.cA l.cn l.cc, .slice A ks.length c, .int .i64 a]) (by simp [results, Try.results79, go_sem]) rfl ?_
    exact ⟨_, rfl, HFIN.out _ (((Below.refl _ w).alloc (Nat.le_refl _) _).alloc (by simp) _), ((Below.refl _ w).alloc (Nat.le_refl _) _).alloc (by simp) _⟩
  ·rw [if_neg h2] at hR
   by_cases h3 : kk = 3
   ·subst h3
    rw [if_pos rfl] at hR
    have HRR := Lib.hid hR
    clear hR h2
    go_enter Try.func79, Try.ntmps79
    go_wp2_with fail
    go_loopw [24] (fun q wr => RLoop S w 4 o kn l a ks q wr) (fun q _ => ks.length - (intOf q).toNat)
    case atStart =>
     refine ⟨0, none, 0, [], Nat.zero_le _, rfl, ?_, ?_, World.ownsRow_nil _ _ _ _, ?_, ?_⟩
     ·exact blk_alloc (blk_new w _) _
     ·have := blk_new (w.alloc (.cells #[.int .i64 4, .int .i64 o, .string kn, .slice l.sA l.sn l.sc, .slice l.cA l.cn l.cc, .slice none 0 0, .int .i64 a] 39)) (.cells #[.int .i64 0, .int .i64 0, .string ⟨#[]⟩, .slice none 0 0, .slice none 0 0, .slice none 0 0, .int .i64 0] 39)
      rw [show (w.alloc (.cells #[.int .i64 4, .int .i64 o, .string kn, .slice l.sA l.sn l.sc, .slice l.cA l.cn l.cc, .slice none 0 0, .int .i64 a] 39)).heap.size = w.heap.size + 1 by simp] at this
      exact this
     ·simp [NdsAt, righteds]
     ·exact ((Below.refl _ w).alloc (Nat.le_refl _) _).alloc (by simp) _
    case round =>
     obtain ⟨i, vA, vc, vs', hi, rfl, hbox, hres, hown, hnds, hb⟩ := hrel
     have HBOX := Lib.hid hbox
     have HRES := Lib.hid hres
     have HOWN := Lib.hid hown
     have HNDS := Lib.hid hnds
     have HB := Lib.hid hb
     by_cases hlt : i < ks.length
     ·obtain ⟨kd, hkd⟩ : ∃ kd, ks[i]? = some kd := ⟨_, List.getElem?_eq_getElem hlt⟩
      obtain ⟨b, o', l', B, c', a', rfl, hbl, hna, e0, e1, e2, e3, e4, e5, e6⟩ := kid_cells HROW.out HK.out hb hkd
      have hks := size_kid hkd
      have hrt := Lib.hid (righteds_take ks i kd hkd)
      have hj0 : (0 : Int) ≤ (i : Int) := by omega
      have hj1 : (i : Int) < (ks.length : Int) := by omega
      have HNA := Lib.hid hna
      have hk1 : kd.size ≤ m := by omega
      have hbs : w.heap.size + 1 < wr.heap.size := blk_lt hres
      have hbs0 : w.heap.size < wr.heap.size := by omega
      have z5 := blk_cell hbox 5
      clear hbox hres hown hnds hb hna hkd
      go_wp2_with fail
      obtain ⟨W1, hW1⟩ : ∃ W1, wr.alloc (.cells #[.int .i64 kd.kind, .int .i64 o', .string kd.name, .slice l'.sA l'.sn l'.sc, .slice l'.cA l'.cn l'.cc, .slice B kd.kids.length c', .int .i64 a'] 39) = W1 := ⟨_, rfl⟩
      have hb1 : Below wr.heap.size wr W1 := by rw [← hW1]; exact (Below.refl _ _).alloc (Nat.le_refl _) _
      have hkv : W1.heap[wr.heap.size]? = some (.cells #[.int .i64 kd.kind, .int .i64 o', .string kd.name, .slice l'.sA l'.sn l'.sc, .slice l'.cA l'.cn l'.cc, .slice B kd.kids.length c', .int .i64 a'] 39 (0, 0)) := by rw [← hW1]; exact blk_new wr _
      have y0 := blk_cell hkv 0
      have y1 := blk_cell hkv 1
      have y2 := blk_cell hkv 2
      have y3 := blk_cell hkv 3
      have y4 := blk_cell hkv 4
      have y5 := blk_cell hkv 5
      have y6 := blk_cell hkv 6
      have HBOX1 := Lib.hid (blk_below HBOX.out hb1 (blk_lt HBOX.out))
      have z51 := blk_cell HBOX1.out 5
      have HRES1 := Lib.hid (blk_below HRES.out hb1 (blk_lt HRES.out))
      have HOWN1 := Lib.hid (own_below HOWN.out hb1)
      have HNDS1 := Lib.hid (HNDS.out.below hb1)
      have HNA1 := Lib.hid (HNA.out.below hb1.drew)
      have HB1 := Lib.hid (below_then HB.out HB.out.size hb1)
      have hs1 : w.heap.size + 2 ≤ W1.heap.size := by have := hb1.size; omega
      have hbs1 : w.heap.size < W1.heap.size := by omega
      have HOL := Lib.hid HOWN1.out.lt
      rw [hW1]
      clear hW1 hb1 hkv z5
      go_region_law
       (first
          | (refine step_append_lies _ (by rfl) _ _ _ (by rfl) (w.heap.size + 2) 39 i0 _ 7 112 Try.underlying37 hi0 hz0 hz1 hz2 rfl (by omega) (.slice vA i vc) i vs' (by rfl) (HOWN2.out.alloc _)
              ⟨w2.heap.size, 0, none⟩ 1 1 [.int .i64 kd.righted.kind, .int .i64 o2, .string kd.righted.name, .slice l2.sA l2.sn l2.sc, .slice l2.cA l2.cn l2.cc, .slice A2 kd.righted.kids.length c2, .int .i64 a2] (by rfl) (by rfl) (World.news_of_block (cs := #[.int .i64 kd.righted.kind, .int .i64 o2, .string kd.righted.name, .slice l2.sA l2.sn l2.sc, .slice l2.cA l2.cn l2.cc, .slice A2 kd.righted.kids.length c2, .int .i64 a2]) (t := 39) (fr := (0, 0)) (heap_alloc_new w2 _)) htok.out
              (by omega) (by unfold maxLen; omega) (by omega) (by simp; omega) (w2.heap.size + 1) (by simp) ?_; intro gg cap w5 hown5 hgrow hat5 hlt5; have HP5 := Lib.hid (nd_push (cap := cap) (P := (fun b => (S b ∧ b < w.heap.size) ∨ w.heap.size + 2 ≤ b)) (Q := fun b => (S b ∧ b < w.heap.size) ∨ W1.heap.size ≤ b) HNDS1.out (fun b hQ _ => by rcases hQ with hQ | hQ; exact ⟨.inl hQ, fun e => by have := HOL.out b e; omega⟩; exact ⟨.inr (by omega), fun e => by have := HOL.out b e; omega⟩) HNA2.out rfl HB2.out.size (fun b hb _ => HB2.out.block b hb) ((Below.refl _ w2).alloc (Nat.le_refl _) (.cells #[.int .i64 kd.righted.kind, .int .i64 o2, .string kd.righted.name, .slice l2.sA l2.sn l2.sc, .slice l2.cA l2.cn l2.cc, .slice A2 kd.righted.kids.length c2, .int .i64 a2] 39)) hgrow (by simp) hat5); have hbx5 := blk_grown (blk_alloc HBOX2.out (.cells #[.int .i64 kd.righted.kind, .int .i64 o2, .string kd.righted.name, .slice l2.sA l2.sn l2.sc, .slice l2.cA l2.cn l2.cc, .slice A2 kd.righted.kids.length c2, .int .i64 a2] 39)) hgrow (fun e => by have := HOL.out _ e; omega); have HRES5 := Lib.hid (blk_grown (blk_alloc HRES2.out (.cells #[.int .i64 kd.righted.kind, .int .i64 o2, .string kd.righted.name, .slice l2.sA l2.sn l2.sc, .slice l2.cA l2.cn l2.cc, .slice A2 kd.righted.kids.length c2, .int .i64 a2] 39)) hgrow (fun e => by have := HOL.out _ e; omega)); have HB5 := Lib.hid ((HB1.out.trans (HB2.out.mono hs1')).alloc (by have := HB2.out.size; omega) (.cells #[.int .i64 kd.righted.kind, .int .i64 o2, .string kd.righted.name, .slice l2.sA l2.sn l2.sc, .slice l2.cA l2.cn l2.cc, .slice A2 kd.righted.kids.length c2, .int .i64 a2] 39) |>.grown hgrow (by simp; have := HB2.out.size; omega) (fun r hr => by have := HOL.out r hr; omega)); have z55 := blk_cell hbx5 5; have zf55 := blk_frozen hbx5 5; have HBX5 := Lib.hid hbx5; have HOWN5 := Lib.hid hown5; clear hbx5 hgrow hat5 hown5)
          | (go_simp; go_at_call 79; (with_reducible refine (IH.out _ kd _ _ hk1 HNA1.out).mono ?_); intro e w2 hpost; obtain ⟨v', he', hna2, hb2⟩ := hpost; obtain ⟨o2, l2, A2, c2, a2, vs2, hv2, -, -, -, -⟩ := hna2.form; subst he' hv2; have HB2 := Lib.hid (show Below W1.heap.size W1 w2 from ⟨hb2.os, hb2.tape, hb2.output, hb2.size, hb2.block⟩); have HNA2 := Lib.hid hna2; have HBOX2 := Lib.hid (blk_below HBOX1.out HB2.out (blk_lt HBOX1.out)); have HRES2 := Lib.hid (blk_below HRES1.out HB2.out (blk_lt HRES1.out)); have z52 := blk_cell HBOX2.out 5; have hbs2 := blk_lt HBOX2.out; have HOWN2 := Lib.hid (own_below HOWN1.out HB2.out); have htok := Lib.hid (seven_one kd.righted.kind o2 kd.righted.name l2.sA l2.sn l2.sc l2.cA l2.cn l2.cc A2 kd.righted.kids.length c2 a2); have hs1' : w.heap.size ≤ W1.heap.size := (by omega); have hs2 := HB2.out.size; clear hna2 hb2; go_wp2_with fail)
          | fail)
      all_goals
       go_wp2
       go_roundw
       case rel =>
        refine ⟨i + 1, some ⟨gg, 0, none⟩, cap, vs' ++ [.int .i64 kd.righted.kind, .int .i64 o2, .string kd.righted.name, .slice l2.sA l2.sn l2.sc, .slice l2.cA l2.cn l2.cc, .slice A2 kd.righted.kids.length c2, .int .i64 a2], by omega, by go_num, ?_, blk_far HRES5.out (by simp) _, own_far (by simpa using HOWN5.out) (by simp) _, ?_, HB5.out.setCell (p := ⟨w.heap.size, 5, none⟩) (by simp) _⟩
        ·have := blk_set HBX5.out 5 (.slice (some ⟨gg, 0, none⟩) (i + 1) cap)
         simpa using this
        ·rw [hrt.out]
         exact HP5.out.mono (by simp [World.setCell]) (fun b hS _ => ⟨hS, Below.heap_setCell w5 _ _ b (by have := hS.1; simp; omega)⟩)
       case measure => simp [intOf]; omega
     ·obtain rfl : i = ks.length := by omega
      obtain ⟨_, _, hv0, hvc⟩ := own_slice hown
      cases hv0
      have z0 := blk_cell hbox 0
      have z1 := blk_cell hbox 1
      have z2 := blk_cell hbox 2
      have z3 := blk_cell hbox 3
      have z4 := blk_cell hbox 4
      have z5 := blk_cell hbox 5
      have z6 := blk_cell hbox 6
      have r0 := blk_cell hres 0
      have r1 := blk_cell hres 1
      have r2 := blk_cell hres 2
      have r3 := blk_cell hres 3
      have r4 := blk_cell hres 4
      have r5 := blk_cell hres 5
      have r6 := blk_cell hres 6
      have rf0 := blk_frozen hres 0
      have rf1 := blk_frozen hres 1
      have rf2 := blk_frozen hres 2
      have rf3 := blk_frozen hres 3
      have rf4 := blk_frozen hres 4
      have rf5 := blk_frozen hres 5
      have rf6 := blk_frozen hres 6
      clear hbox hres hown hnds hb
      go_wp2_with fail
      obtain ⟨q0, q1, q2, q3, q4, q5, q6⟩ := seven_cells HRES.out (.int .i64 4) (.int .i64 o) (.string kn) (.slice l.sA l.sn l.sc) (.slice l.cA l.cn l.cc) (.slice vA ks.length vc) (.int .i64 a)
      unfold sevenSet at q0 q1 q2 q3 q4 q5 q6
      refine bodyPost_ret (v := .agg #[.int .i64 4, .int .i64 o, .string kn, .slice l.sA l.sn l.sc, .slice l.cA l.cn l.cc, .slice vA ks.length vc, .int .i64 a]) (by simp [results, Try.results79, go_sem, q0, q1, q2, q3, q4, q5, q6]) rfl ?_
      refine ⟨_, rfl, ?_, seven_below HB.out (Nat.le_succ _) _ _ _ _ _ _ _⟩
      rw [← HRR.out]
      have hn := HNDS.out
      rw [List.take_length] at hn
      simp only [NdAt]
      refine ⟨vA, vc, vs', by rw [righteds_len], by rw [righteds_len]; exact hvc, (rowIn_own HOWN.out).mono (Nat.le_of_eq (seven_size ..).symm) (fun b (hS : w.heap.size + 2 ≤ b) _ => ⟨.inr (by omega), seven_heap _ _ _ (by omega) _ _ _ _ _ _ _⟩), hn.mono (Nat.le_of_eq (seven_size ..).symm) (fun b hS _ => ?_)⟩
      rcases hS.1 with h | h
      ·exact ⟨.inl h.1, seven_heap _ _ _ (by omega) _ _ _ _ _ _ _⟩
      ·exact ⟨.inr (by omega), seven_heap _ _ _ (by omega) _ _ _ _ _ _ _⟩
   ·have b3 : (kk == 3) = false := beq_eq_false_iff_ne.2 h3
    have b22 : (kk == 22) = false := beq_eq_false_iff_ne.2 (fun h => h2 (.inl h))
    have b23 : (kk == 23) = false := beq_eq_false_iff_ne.2 (fun h => h2 (.inr h))
    rw [if_neg h3] at hR
    have HRR := Lib.hid hR
    clear hR h2 h3
    go_enter Try.func79, Try.ntmps79
    go_wp2_with fail
    go_loopw [24] (fun q wr => RLoop S w kk o kn l a ks q wr) (fun q _ => ks.length - (intOf q).toNat)
    case atStart =>
     refine ⟨0, none, 0, [], Nat.zero_le _, rfl, ?_, ?_, World.ownsRow_nil _ _ _ _, ?_, ?_⟩
     ·exact blk_alloc (blk_new w _) _
     ·have := blk_new (w.alloc (.cells #[.int .i64 kk, .int .i64 o, .string kn, .slice l.sA l.sn l.sc, .slice l.cA l.cn l.cc, .slice none 0 0, .int .i64 a] 39)) (.cells #[.int .i64 0, .int .i64 0, .string ⟨#[]⟩, .slice none 0 0, .slice none 0 0, .slice none 0 0, .int .i64 0] 39)
      rw [show (w.alloc (.cells #[.int .i64 kk, .int .i64 o, .string kn, .slice l.sA l.sn l.sc, .slice l.cA l.cn l.cc, .slice none 0 0, .int .i64 a] 39)).heap.size = w.heap.size + 1 by simp] at this
      exact this
     ·simp [NdsAt, righteds]
     ·exact ((Below.refl _ w).alloc (Nat.le_refl _) _).alloc (by simp) _
    case round =>
     obtain ⟨i, vA, vc, vs', hi, rfl, hbox, hres, hown, hnds, hb⟩ := hrel
     have HBOX := Lib.hid hbox
     have HRES := Lib.hid hres
     have HOWN := Lib.hid hown
     have HNDS := Lib.hid hnds
     have HB := Lib.hid hb
     by_cases hlt : i < ks.length
     ·obtain ⟨kd, hkd⟩ : ∃ kd, ks[i]? = some kd := ⟨_, List.getElem?_eq_getElem hlt⟩
      obtain ⟨b, o', l', B, c', a', rfl, hbl, hna, e0, e1, e2, e3, e4, e5, e6⟩ := kid_cells HROW.out HK.out hb hkd
      have hks := size_kid hkd
      have hrt := Lib.hid (righteds_take ks i kd hkd)
      have hj0 : (0 : Int) ≤ (i : Int) := by omega
      have hj1 : (i : Int) < (ks.length : Int) := by omega
      have HNA := Lib.hid hna
      have hk1 : kd.size ≤ m := by omega
      have hbs : w.heap.size + 1 < wr.heap.size := blk_lt hres
      have hbs0 : w.heap.size < wr.heap.size := by omega
      have z5 := blk_cell hbox 5
      clear hbox hres hown hnds hb hna hkd
      go_wp2_with fail
      obtain ⟨W1, hW1⟩ : ∃ W1, wr.alloc (.cells #[.int .i64 kd.kind, .int .i64 o', .string kd.name, .slice l'.sA l'.sn l'.sc, .slice l'.cA l'.cn l'.cc, .slice B kd.kids.length c', .int .i64 a'] 39) = W1 := ⟨_, rfl⟩
      have hb1 : Below wr.heap.size wr W1 := by rw [← hW1]; exact (Below.refl _ _).alloc (Nat.le_refl _) _
      have hkv : W1.heap[wr.heap.size]? = some (.cells #[.int .i64 kd.kind, .int .i64 o', .string kd.name, .slice l'.sA l'.sn l'.sc, .slice l'.cA l'.cn l'.cc, .slice B kd.kids.length c', .int .i64 a'] 39 (0, 0)) := by rw [← hW1]; exact blk_new wr _
      have y0 := blk_cell hkv 0
      have y1 := blk_cell hkv 1
      have y2 := blk_cell hkv 2
      have y3 := blk_cell hkv 3
      have y4 := blk_cell hkv 4
      have y5 := blk_cell hkv 5
      have y6 := blk_cell hkv 6
      have HBOX1 := Lib.hid (blk_below HBOX.out hb1 (blk_lt HBOX.out))
      have z51 := blk_cell HBOX1.out 5
      have HRES1 := Lib.hid (blk_below HRES.out hb1 (blk_lt HRES.out))
      have HOWN1 := Lib.hid (own_below HOWN.out hb1)
      have HNDS1 := Lib.hid (HNDS.out.below hb1)
      have HNA1 := Lib.hid (HNA.out.below hb1.drew)
      have HB1 := Lib.hid (below_then HB.out HB.out.size hb1)
      have hs1 : w.heap.size + 2 ≤ W1.heap.size := by have := hb1.size; omega
      have hbs1 : w.heap.size < W1.heap.size := by omega
      have HOL := Lib.hid HOWN1.out.lt
      rw [hW1]
      clear hW1 hb1 hkv z5
      go_region_law
       (first
          | (refine step_append_lies _ (by rfl) _ _ _ (by rfl) (w.heap.size + 2) 39 i0 _ 7 112 Try.underlying37 hi0 hz0 hz1 hz2 rfl (by omega) (.slice vA i vc) i vs' (by rfl) (HOWN2.out.alloc _)
              ⟨w2.heap.size, 0, none⟩ 1 1 [.int .i64 kd.righted.kind, .int .i64 o2, .string kd.righted.name, .slice l2.sA l2.sn l2.sc, .slice l2.cA l2.cn l2.cc, .slice A2 kd.righted.kids.length c2, .int .i64 a2] (by rfl) (by rfl) (World.news_of_block (cs := #[.int .i64 kd.righted.kind, .int .i64 o2, .string kd.righted.name, .slice l2.sA l2.sn l2.sc, .slice l2.cA l2.cn l2.cc, .slice A2 kd.righted.kids.length c2, .int .i64 a2]) (t := 39) (fr := (0, 0)) (heap_alloc_new w2 _)) htok.out
              (by omega) (by unfold maxLen; omega) (by omega) (by simp; omega) (w2.heap.size + 1) (by simp) ?_; intro gg cap w5 hown5 hgrow hat5 hlt5; have HP5 := Lib.hid (nd_push (cap := cap) (P := (fun b => (S b ∧ b < w.heap.size) ∨ w.heap.size + 2 ≤ b)) (Q := fun b => (S b ∧ b < w.heap.size) ∨ W1.heap.size ≤ b) HNDS1.out (fun b hQ _ => by rcases hQ with hQ | hQ; exact ⟨.inl hQ, fun e => by have := HOL.out b e; omega⟩; exact ⟨.inr (by omega), fun e => by have := HOL.out b e; omega⟩) HNA2.out rfl HB2.out.size (fun b hb _ => HB2.out.block b hb) ((Below.refl _ w2).alloc (Nat.le_refl _) (.cells #[.int .i64 kd.righted.kind, .int .i64 o2, .string kd.righted.name, .slice l2.sA l2.sn l2.sc, .slice l2.cA l2.cn l2.cc, .slice A2 kd.righted.kids.length c2, .int .i64 a2] 39)) hgrow (by simp) hat5); have hbx5 := blk_grown (blk_alloc HBOX2.out (.cells #[.int .i64 kd.righted.kind, .int .i64 o2, .string kd.righted.name, .slice l2.sA l2.sn l2.sc, .slice l2.cA l2.cn l2.cc, .slice A2 kd.righted.kids.length c2, .int .i64 a2] 39)) hgrow (fun e => by have := HOL.out _ e; omega); have HRES5 := Lib.hid (blk_grown (blk_alloc HRES2.out (.cells #[.int .i64 kd.righted.kind, .int .i64 o2, .string kd.righted.name, .slice l2.sA l2.sn l2.sc, .slice l2.cA l2.cn l2.cc, .slice A2 kd.righted.kids.length c2, .int .i64 a2] 39)) hgrow (fun e => by have := HOL.out _ e; omega)); have HB5 := Lib.hid ((HB1.out.trans (HB2.out.mono hs1')).alloc (by have := HB2.out.size; omega) (.cells #[.int .i64 kd.righted.kind, .int .i64 o2, .string kd.righted.name, .slice l2.sA l2.sn l2.sc, .slice l2.cA l2.cn l2.cc, .slice A2 kd.righted.kids.length c2, .int .i64 a2] 39) |>.grown hgrow (by simp; have := HB2.out.size; omega) (fun r hr => by have := HOL.out r hr; omega)); have z55 := blk_cell hbx5 5; have zf55 := blk_frozen hbx5 5; have HBX5 := Lib.hid hbx5; have HOWN5 := Lib.hid hown5; clear hbx5 hgrow hat5 hown5)
          | (go_simp; go_at_call 79; (with_reducible refine (IH.out _ kd _ _ hk1 HNA1.out).mono ?_); intro e w2 hpost; obtain ⟨v', he', hna2, hb2⟩ := hpost; obtain ⟨o2, l2, A2, c2, a2, vs2, hv2, -, -, -, -⟩ := hna2.form; subst he' hv2; have HB2 := Lib.hid (show Below W1.heap.size W1 w2 from ⟨hb2.os, hb2.tape, hb2.output, hb2.size, hb2.block⟩); have HNA2 := Lib.hid hna2; have HBOX2 := Lib.hid (blk_below HBOX1.out HB2.out (blk_lt HBOX1.out)); have HRES2 := Lib.hid (blk_below HRES1.out HB2.out (blk_lt HRES1.out)); have z52 := blk_cell HBOX2.out 5; have hbs2 := blk_lt HBOX2.out; have HOWN2 := Lib.hid (own_below HOWN1.out HB2.out); have htok := Lib.hid (seven_one kd.righted.kind o2 kd.righted.name l2.sA l2.sn l2.sc l2.cA l2.cn l2.cc A2 kd.righted.kids.length c2 a2); have hs1' : w.heap.size ≤ W1.heap.size := (by omega); have hs2 := HB2.out.size; clear hna2 hb2; go_wp2_with fail)
          | fail)
      all_goals
       go_wp2
       go_roundw
       case rel =>
        refine ⟨i + 1, some ⟨gg, 0, none⟩, cap, vs' ++ [.int .i64 kd.righted.kind, .int .i64 o2, .string kd.righted.name, .slice l2.sA l2.sn l2.sc, .slice l2.cA l2.cn l2.cc, .slice A2 kd.righted.kids.length c2, .int .i64 a2], by omega, by go_num, ?_, blk_far HRES5.out (by simp) _, own_far (by simpa using HOWN5.out) (by simp) _, ?_, HB5.out.setCell (p := ⟨w.heap.size, 5, none⟩) (by simp) _⟩
        ·have := blk_set HBX5.out 5 (.slice (some ⟨gg, 0, none⟩) (i + 1) cap)
         simpa using this
        ·rw [hrt.out]
         exact HP5.out.mono (by simp [World.setCell]) (fun b hS _ => ⟨hS, Below.heap_setCell w5 _ _ b (by have := hS.1; simp; omega)⟩)
       case measure => simp [intOf]; omega
     ·obtain rfl : i = ks.length := by omega
      obtain ⟨_, _, hv0, hvc⟩ := own_slice hown
      cases hv0
      have z0 := blk_cell hbox 0
      have z1 := blk_cell hbox 1
      have z2 := blk_cell hbox 2
      have z3 := blk_cell hbox 3
      have z4 := blk_cell hbox 4
      have z5 := blk_cell hbox 5
      have z6 := blk_cell hbox 6
      have r0 := blk_cell hres 0
      have r1 := blk_cell hres 1
      have r2 := blk_cell hres 2
      have r3 := blk_cell hres 3
      have r4 := blk_cell hres 4
      have r5 := blk_cell hres 5
      have r6 := blk_cell hres 6
      have rf0 := blk_frozen hres 0
      have rf1 := blk_frozen hres 1
      have rf2 := blk_frozen hres 2
      have rf3 := blk_frozen hres 3
      have rf4 := blk_frozen hres 4
      have rf5 := blk_frozen hres 5
      have rf6 := blk_frozen hres 6
      clear hbox hres hown hnds hb
      go_wp2_with fail
      obtain ⟨q0, q1, q2, q3, q4, q5, q6⟩ := seven_cells HRES.out (.int .i64 kk) (.int .i64 o) (.string kn) (.slice l.sA l.sn l.sc) (.slice l.cA l.cn l.cc) (.slice vA ks.length vc) (.int .i64 a)
      unfold sevenSet at q0 q1 q2 q3 q4 q5 q6
      refine bodyPost_ret (v := .agg #[.int .i64 kk, .int .i64 o, .string kn, .slice l.sA l.sn l.sc, .slice l.cA l.cn l.cc, .slice vA ks.length vc, .int .i64 a]) (by simp [results, Try.results79, go_sem, q0, q1, q2, q3, q4, q5, q6]) rfl ?_
      refine ⟨_, rfl, ?_, seven_below HB.out (Nat.le_succ _) _ _ _ _ _ _ _⟩
      rw [← HRR.out]
      have hn := HNDS.out
      rw [List.take_length] at hn
      simp only [NdAt]
      refine ⟨vA, vc, vs', by rw [righteds_len], by rw [righteds_len]; exact hvc, (rowIn_own HOWN.out).mono (Nat.le_of_eq (seven_size ..).symm) (fun b (hS : w.heap.size + 2 ≤ b) _ => ⟨.inr (by omega), seven_heap _ _ _ (by omega) _ _ _ _ _ _ _⟩), hn.mono (Nat.le_of_eq (seven_size ..).symm) (fun b hS _ => ?_)⟩
      rcases hS.1 with h | h
      ·exact ⟨.inl h.1, seven_heap _ _ _ (by omega) _ _ _ _ _ _ _⟩
      ·exact ⟨.inr (by omega), seven_heap _ _ _ (by omega) _ _ _ _ _ _ _⟩
end Go.Proofs.Ytollglblkbjgjaa
