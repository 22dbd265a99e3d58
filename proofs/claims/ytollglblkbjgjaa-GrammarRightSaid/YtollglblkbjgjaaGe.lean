/- Contract of skip: where the function ends that begins at a word. Conditions: the grammar and the words read in memory; the parser's block. -/
import Derived.Test.YtollglblkbjgjaaGd
namespace Go.Proofs.Ytollglblkbjgjaa
open Go.RowKit

set_option maxRecDepth 100000 in
set_option maxHeartbeats 16000000 in
theorem skip_any (E : Env) (bp : Nat) (p : Nat) (d n : Int) : ∀ (f i : Nat) (b : Bool) (w : World), E.L.length + 1 ≤ i + f → i ≤ E.L.length → EnvAt w E → w.heap[bp]? = some (pcell E p d n) →
  Calls Try.prog 32 #[.pointer (some ⟨bp, 0, none⟩), .int .i64 (i : Int), .bool b] w (Adds (placeVal (E.skipF f i b)) w) := by
 intro f
 induction f with
 | zero => intro i b w hf hi; omega
 | succ f ih =>
  intro i b w hf hi hE hp
  have IH := Lib.hid (show ∀ (q : Nat) (b : Bool) (w : World), i + 1 ≤ q → q ≤ E.L.length → EnvAt w E → w.heap[bp]? = some (pcell E p d n) → Calls Try.prog 32 #[.pointer (some ⟨bp, 0, none⟩), .int .i64 (q : Int), .bool b] w (Adds (placeVal (E.skipF f q b)) w) from fun q b w h1 h2 h3 h4 => ih q b w (by omega) h2 h3 h4)
  clear ih
  have hln := hE.ln
  obtain ⟨R, hR⟩ : ∃ R, E.skipF (f + 1) i b = R := ⟨_, rfl⟩
  rw [hR]
  simp only [Env.skipF] at hR
  have c3 := blk_cell hp 3
  have c0 := blk_cell hp 0
  have c2 := blk_cell hp 2
  have c5 := blk_cell hp 5
  have HI := Lib.hid (is_any E bp p d n i 4 E.outer w hE hp)
  have HE := Lib.hid hE
  have HP := Lib.hid hp
  cases bo : E.is i 4 E.outer
  ·rw [bo] at hR HI
   rw [if_neg Bool.false_ne_true, show (b && !false) = b by simp] at hR
   have HR := Lib.hid hR
   have hk : i ≤ E.L.length := hi
   clear hE hp hR bo
   go_enter Try.func32, Try.ntmps32
   go_wp2_with fail
   refine HI.out.mono ?_
   rintro e w2 ⟨rfl, hww⟩
   obtain rfl : w = w2 := hww.symm
   clear HI
   have HSV := Lib.hid (sign_any E bp p d n i E.vA E.vc E.vs w HE.out HP.out HE.out.v HE.out.vn)
   have HSB := Lib.hid (sign_any E bp p d n i E.bA E.bc E.bs w HE.out HP.out HE.out.b HE.out.bn)
   have HIO := Lib.hid (is_any E bp p d n i 5 E.open_ w HE.out HP.out)
   have HIP := Lib.hid (is_any E bp p d n i 5 ⟨#[40]⟩ w HE.out HP.out)
   have HSH := Lib.hid (shut_any E bp p d n i w HE.out HP.out hk)
   have HB0 := Lib.hid (Below.refl w.heap.size w)
   cases sv : E.sign i E.vs
   ·rw [sv] at HSV
    go_wp2_with fail
    refine HSV.out.mono ?_
    rintro e w2 ⟨rfl, hww⟩
    obtain rfl : w = w2 := hww.symm
    cases b
    ·have HNB := Lib.hid (show (false && E.sign i E.bs) = false from rfl)
     cases io : E.is i 5 E.open_
     ·rw [io] at HIO
      go_wp2_with fail
      refine HIO.out.mono ?_
      rintro e w2 ⟨rfl, hww⟩
      obtain rfl : w = w2 := hww.symm
      cases ip : E.is i 5 ⟨#[40]⟩
      ·rw [ip] at HIP
       have hRn : R = none := by rw [← HR.out, Env.headG, if_neg (by rw [sv]; simp [HNB.out]), if_neg (by rw [io]; decide), if_neg (by rw [ip]; decide)]; rfl
       subst hRn
       clear sv io ip
       go_wp2_with fail
       refine HIP.out.mono ?_
       rintro e w2 ⟨rfl, hww⟩
       obtain rfl : w = w2 := hww.symm
       go_wp2
       refine bodyPost_ret (v := .int .i64 (-1)) (by simp [results, Try.results32, go_sem]) rfl ?_
       exact ⟨rfl, Below.refl _ _⟩
      ·rw [ip] at HIP
       have hkl := Env.is_lt ip
       have HGR := Lib.hid (group_any E bp p d n false (E.skipF f) i hkl (fun q w h1 h2 h3 h4 => IH.out q false w (by omega) h2 h3 h4) (E.skip_lt f) w HE.out HP.out)
       have hR2 : (E.grpG (E.skipF f) (E.L.length + 1) (i + 1) false 0).map (E.tail (E.L.length + 1)) = R := by rw [← HR.out, Env.headG, if_neg (by rw [sv]; simp [HNB.out]), if_neg (by rw [io]; decide), if_pos ip]
       clear sv io ip
       go_wp2_with fail
       refine HIP.out.mono ?_
       rintro e w2 ⟨rfl, hww⟩
       obtain rfl : w = w2 := hww.symm
       cases hg : E.grpG (E.skipF f) (E.L.length + 1) (i + 1) false 0 with
       | none =>
        rw [hg] at hR2 HGR
        dsimp only [placeVal] at HGR
        have hRn : R = none := hR2.symm
        subst hRn
        clear hg hR2
        go_wp2_with fail
        refine HGR.out.mono ?_
        rintro e w3 ⟨rfl, hb3⟩
        go_wp2
        refine bodyPost_ret (v := .int .i64 (-1)) (by simp [results, Try.results32, go_sem]) rfl ?_
        exact ⟨rfl, hb3⟩
       | some q =>
        rw [hg] at hR2 HGR
        dsimp only [placeVal] at HGR
        have hq := (Env.grp_lt (E.skip_lt f) _ _ _ _ _ hg).2
        have HRq := Lib.hid (show some (E.tail (E.L.length + 1) q) = R from hR2)
        have dq : decide ((q : Int) < 0) = false := decide_eq_false (by omega)
        clear hg hR2
        go_wp2_with fail
        refine HGR.out.mono ?_
        rintro e w3 ⟨rfl, hb3⟩
        have HB := Lib.hid hb3
        clear hb3
        go_wp2
        go_loopg [1] (E.L.length + 1) (fun f ti wr => ∃ k : Nat, ti = .int .i64 k ∧ k ≤ E.L.length ∧ E.L.length + 1 ≤ k + f ∧ Below w.heap.size w wr ∧ some (E.tail f k) = R)
        case atStart => exact ⟨q, rfl, hq, by omega, HB.out, HRq.out⟩
        case round =>
         obtain ⟨k, rfl, hk, hf, hb, hM⟩ := hrel
         obtain ⟨f, rfl⟩ : ∃ f, gk = f + 1 := ⟨gk - 1, by omega⟩
         have HB1 := Lib.hid hb
         have HE1 := Lib.hid (HE.out.below hb)
         have hp1 := blk_below HP.out hb (blk_lt HP.out)
         have HP1 := Lib.hid hp1
         have c1 := blk_cell hp1 1
         simp only [Env.tail] at hM
         have HS1 := Lib.hid (sign_any E bp p d n k E.aA E.ac E.as_ wr HE1.out hp1 HE1.out.a HE1.out.an)
         clear hb hp1
         cases bs : E.sign k E.as_
         ·rw [bs] at hM HS1
          rw [if_neg Bool.false_ne_true] at hM
          have HPW := Lib.hid (power_any E bp p d n k wr HE1.out HP1.out (by omega))
          clear bs
          cases hpw : E.pow k with
          | none =>
           rw [hpw] at hM HPW
           dsimp only [optVal] at hM HPW
           subst hM
           clear hpw
           go_wp2_with fail
           refine HS1.out.mono ?_
           rintro e w4 ⟨rfl, rfl⟩
           go_wp2_with fail
           refine HPW.out.mono ?_
           rintro e w5 ⟨rfl, hb5⟩
           go_wp2
           refine bodyPost_ret (v := .int .i64 (k : Int)) (by simp [results, Try.results32, go_sem]) rfl ?_
           exact ⟨rfl, below_then HB1.out HB1.out.size hb5⟩
          | some m =>
           rw [hpw] at hM HPW
           dsimp only [optVal] at hM HPW
           have hlt := Env.pow_lt hpw
           have HM := Lib.hid hM
           clear hpw hM
           have hw2 : IntKind.i64.wrap ((k : Int) + 2) = (k : Int) + 2 := wraps_i64 _ (by omega) (by omega)
           go_wp2_with fail
           refine HS1.out.mono ?_
           rintro e w4 ⟨rfl, rfl⟩
           go_wp2_with fail
           refine HPW.out.mono ?_
           rintro e w5 ⟨rfl, hb5⟩
           go_wp2
           go_roundg f
           case rel => exact ⟨k + 2, by go_num, by omega, by omega, below_then HB1.out HB1.out.size hb5, HM.out⟩
           case measure => exact Nat.lt_succ_self f
         ·rw [bs] at hM HS1
          rw [if_pos rfl] at hM
          have hlt := Env.sign_lt bs
          have HM := Lib.hid hM
          clear bs hM
          have hw2 : IntKind.i64.wrap ((k : Int) + 1) = (k : Int) + 1 := wraps_i64 _ (by omega) (by omega)
          go_wp2_with fail
          refine HS1.out.mono ?_
          rintro e w4 ⟨rfl, rfl⟩
          go_wp2
          go_roundg f
          case rel => exact ⟨k + 1, by go_num, by omega, by omega, HB1.out, HM.out⟩
          case measure => exact Nat.lt_succ_self f
     ·rw [io] at HIO
      have hkl := Env.is_lt io
      have hR2 : ((E.shut i).map (· + 1)).map (E.tail (E.L.length + 1)) = R := by rw [← HR.out, Env.headG, if_neg (by rw [sv]; simp [HNB.out]), if_pos io]
      clear sv io
      go_wp2_with fail
      refine HIO.out.mono ?_
      rintro e w2 ⟨rfl, hww⟩
      obtain rfl : w = w2 := hww.symm
      cases hs : E.shut i with
      | none =>
       rw [hs] at hR2 HSH
       dsimp only [placeVal] at HSH
       have hRn : R = none := hR2.symm
       subst hRn
       clear hs hR2
       go_wp2_with fail
       refine HSH.out.mono ?_
       rintro e w3 ⟨rfl, hww⟩
       obtain rfl : w = w3 := hww.symm
       go_wp2
       refine bodyPost_ret (v := .int .i64 (-1)) (by simp [results, Try.results32, go_sem]) rfl ?_
       exact ⟨rfl, Below.refl _ _⟩
      | some j =>
       rw [hs] at hR2 HSH
       dsimp only [placeVal] at HSH
       have hj := (Env.shut_lt hs).2
       obtain ⟨q, hq0⟩ : ∃ q, j + 1 = q := ⟨_, rfl⟩
       have hwq : IntKind.i64.wrap ((j : Int) + 1) = (q : Int) := (wraps_i64 _ (by omega) (by omega)).trans (by omega)
       have hq : q ≤ E.L.length := by omega
       have HRq := Lib.hid (show some (E.tail (E.L.length + 1) q) = R by rw [← hR2, ← hq0]; rfl)
       have dq : decide ((j : Int) < 0) = false := decide_eq_false (by omega)
       clear hs hR2 hq0
       go_wp2_with fail
       refine HSH.out.mono ?_
       rintro e w3 ⟨rfl, hww⟩
       obtain rfl : w = w3 := hww.symm
       have HB := Lib.hid (Below.refl w.heap.size w)
       go_wp2
       go_loopg [1] (E.L.length + 1) (fun f ti wr => ∃ k : Nat, ti = .int .i64 k ∧ k ≤ E.L.length ∧ E.L.length + 1 ≤ k + f ∧ Below w.heap.size w wr ∧ some (E.tail f k) = R)
       case atStart => exact ⟨q, rfl, hq, by omega, HB.out, HRq.out⟩
       case round =>
        obtain ⟨k, rfl, hk, hf, hb, hM⟩ := hrel
        obtain ⟨f, rfl⟩ : ∃ f, gk = f + 1 := ⟨gk - 1, by omega⟩
        have HB1 := Lib.hid hb
        have HE1 := Lib.hid (HE.out.below hb)
        have hp1 := blk_below HP.out hb (blk_lt HP.out)
        have HP1 := Lib.hid hp1
        have c1 := blk_cell hp1 1
        simp only [Env.tail] at hM
        have HS1 := Lib.hid (sign_any E bp p d n k E.aA E.ac E.as_ wr HE1.out hp1 HE1.out.a HE1.out.an)
        clear hb hp1
        cases bs : E.sign k E.as_
        ·rw [bs] at hM HS1
         rw [if_neg Bool.false_ne_true] at hM
         have HPW := Lib.hid (power_any E bp p d n k wr HE1.out HP1.out (by omega))
         clear bs
         cases hpw : E.pow k with
         | none =>
          rw [hpw] at hM HPW
          dsimp only [optVal] at hM HPW
          subst hM
          clear hpw
          go_wp2_with fail
          refine HS1.out.mono ?_
          rintro e w4 ⟨rfl, rfl⟩
          go_wp2_with fail
          refine HPW.out.mono ?_
          rintro e w5 ⟨rfl, hb5⟩
          go_wp2
          refine bodyPost_ret (v := .int .i64 (k : Int)) (by simp [results, Try.results32, go_sem]) rfl ?_
          exact ⟨rfl, below_then HB1.out HB1.out.size hb5⟩
         | some m =>
          rw [hpw] at hM HPW
          dsimp only [optVal] at hM HPW
          have hlt := Env.pow_lt hpw
          have HM := Lib.hid hM
          clear hpw hM
          have hw2 : IntKind.i64.wrap ((k : Int) + 2) = (k : Int) + 2 := wraps_i64 _ (by omega) (by omega)
          go_wp2_with fail
          refine HS1.out.mono ?_
          rintro e w4 ⟨rfl, rfl⟩
          go_wp2_with fail
          refine HPW.out.mono ?_
          rintro e w5 ⟨rfl, hb5⟩
          go_wp2
          go_roundg f
          case rel => exact ⟨k + 2, by go_num, by omega, by omega, below_then HB1.out HB1.out.size hb5, HM.out⟩
          case measure => exact Nat.lt_succ_self f
        ·rw [bs] at hM HS1
         rw [if_pos rfl] at hM
         have hlt := Env.sign_lt bs
         have HM := Lib.hid hM
         clear bs hM
         have hw2 : IntKind.i64.wrap ((k : Int) + 1) = (k : Int) + 1 := wraps_i64 _ (by omega) (by omega)
         go_wp2_with fail
         refine HS1.out.mono ?_
         rintro e w4 ⟨rfl, rfl⟩
         go_wp2
         go_roundg f
         case rel => exact ⟨k + 1, by go_num, by omega, by omega, HB1.out, HM.out⟩
         case measure => exact Nat.lt_succ_self f
    ·cases sb : E.sign i E.bs
     ·rw [sb] at HSB
      have HNB := Lib.hid (show (true && E.sign i E.bs) = false by rw [sb]; rfl)
      clear sb
      go_wp2_with fail
      refine HSB.out.mono ?_
      rintro e w2 ⟨rfl, hww⟩
      obtain rfl : w = w2 := hww.symm
      cases io : E.is i 5 E.open_
      ·rw [io] at HIO
       go_wp2_with fail
       refine HIO.out.mono ?_
       rintro e w2 ⟨rfl, hww⟩
       obtain rfl : w = w2 := hww.symm
       cases ip : E.is i 5 ⟨#[40]⟩
       ·rw [ip] at HIP
        have hRn : R = none := by rw [← HR.out, Env.headG, if_neg (by rw [sv]; simp [HNB.out]), if_neg (by rw [io]; decide), if_neg (by rw [ip]; decide)]; rfl
        subst hRn
        clear sv io ip
        go_wp2_with fail
        refine HIP.out.mono ?_
        rintro e w2 ⟨rfl, hww⟩
        obtain rfl : w = w2 := hww.symm
        go_wp2
        refine bodyPost_ret (v := .int .i64 (-1)) (by simp [results, Try.results32, go_sem]) rfl ?_
        exact ⟨rfl, Below.refl _ _⟩
       ·rw [ip] at HIP
        have hkl := Env.is_lt ip
        have HGR := Lib.hid (group_any E bp p d n true (E.skipF f) i hkl (fun q w h1 h2 h3 h4 => IH.out q true w (by omega) h2 h3 h4) (E.skip_lt f) w HE.out HP.out)
        have hR2 : (E.grpG (E.skipF f) (E.L.length + 1) (i + 1) true 0).map (E.tail (E.L.length + 1)) = R := by rw [← HR.out, Env.headG, if_neg (by rw [sv]; simp [HNB.out]), if_neg (by rw [io]; decide), if_pos ip]
        clear sv io ip
        go_wp2_with fail
        refine HIP.out.mono ?_
        rintro e w2 ⟨rfl, hww⟩
        obtain rfl : w = w2 := hww.symm
        cases hg : E.grpG (E.skipF f) (E.L.length + 1) (i + 1) true 0 with
        | none =>
         rw [hg] at hR2 HGR
         dsimp only [placeVal] at HGR
         have hRn : R = none := hR2.symm
         subst hRn
         clear hg hR2
         go_wp2_with fail
         refine HGR.out.mono ?_
         rintro e w3 ⟨rfl, hb3⟩
         go_wp2
         refine bodyPost_ret (v := .int .i64 (-1)) (by simp [results, Try.results32, go_sem]) rfl ?_
         exact ⟨rfl, hb3⟩
        | some q =>
         rw [hg] at hR2 HGR
         dsimp only [placeVal] at HGR
         have hq := (Env.grp_lt (E.skip_lt f) _ _ _ _ _ hg).2
         have HRq := Lib.hid (show some (E.tail (E.L.length + 1) q) = R from hR2)
         have dq : decide ((q : Int) < 0) = false := decide_eq_false (by omega)
         clear hg hR2
         go_wp2_with fail
         refine HGR.out.mono ?_
         rintro e w3 ⟨rfl, hb3⟩
         have HB := Lib.hid hb3
         clear hb3
         go_wp2
         go_loopg [1] (E.L.length + 1) (fun f ti wr => ∃ k : Nat, ti = .int .i64 k ∧ k ≤ E.L.length ∧ E.L.length + 1 ≤ k + f ∧ Below w.heap.size w wr ∧ some (E.tail f k) = R)
         case atStart => exact ⟨q, rfl, hq, by omega, HB.out, HRq.out⟩
         case round =>
          obtain ⟨k, rfl, hk, hf, hb, hM⟩ := hrel
          obtain ⟨f, rfl⟩ : ∃ f, gk = f + 1 := ⟨gk - 1, by omega⟩
          have HB1 := Lib.hid hb
          have HE1 := Lib.hid (HE.out.below hb)
          have hp1 := blk_below HP.out hb (blk_lt HP.out)
          have HP1 := Lib.hid hp1
          have c1 := blk_cell hp1 1
          simp only [Env.tail] at hM
          have HS1 := Lib.hid (sign_any E bp p d n k E.aA E.ac E.as_ wr HE1.out hp1 HE1.out.a HE1.out.an)
          clear hb hp1
          cases bs : E.sign k E.as_
          ·rw [bs] at hM HS1
           rw [if_neg Bool.false_ne_true] at hM
           have HPW := Lib.hid (power_any E bp p d n k wr HE1.out HP1.out (by omega))
           clear bs
           cases hpw : E.pow k with
           | none =>
            rw [hpw] at hM HPW
            dsimp only [optVal] at hM HPW
            subst hM
            clear hpw
            go_wp2_with fail
            refine HS1.out.mono ?_
            rintro e w4 ⟨rfl, rfl⟩
            go_wp2_with fail
            refine HPW.out.mono ?_
            rintro e w5 ⟨rfl, hb5⟩
            go_wp2
            refine bodyPost_ret (v := .int .i64 (k : Int)) (by simp [results, Try.results32, go_sem]) rfl ?_
            exact ⟨rfl, below_then HB1.out HB1.out.size hb5⟩
           | some m =>
            rw [hpw] at hM HPW
            dsimp only [optVal] at hM HPW
            have hlt := Env.pow_lt hpw
            have HM := Lib.hid hM
            clear hpw hM
            have hw2 : IntKind.i64.wrap ((k : Int) + 2) = (k : Int) + 2 := wraps_i64 _ (by omega) (by omega)
            go_wp2_with fail
            refine HS1.out.mono ?_
            rintro e w4 ⟨rfl, rfl⟩
            go_wp2_with fail
            refine HPW.out.mono ?_
            rintro e w5 ⟨rfl, hb5⟩
            go_wp2
            go_roundg f
            case rel => exact ⟨k + 2, by go_num, by omega, by omega, below_then HB1.out HB1.out.size hb5, HM.out⟩
            case measure => exact Nat.lt_succ_self f
          ·rw [bs] at hM HS1
           rw [if_pos rfl] at hM
           have hlt := Env.sign_lt bs
           have HM := Lib.hid hM
           clear bs hM
           have hw2 : IntKind.i64.wrap ((k : Int) + 1) = (k : Int) + 1 := wraps_i64 _ (by omega) (by omega)
           go_wp2_with fail
           refine HS1.out.mono ?_
           rintro e w4 ⟨rfl, rfl⟩
           go_wp2
           go_roundg f
           case rel => exact ⟨k + 1, by go_num, by omega, by omega, HB1.out, HM.out⟩
           case measure => exact Nat.lt_succ_self f
      ·rw [io] at HIO
       have hkl := Env.is_lt io
       have hR2 : ((E.shut i).map (· + 1)).map (E.tail (E.L.length + 1)) = R := by rw [← HR.out, Env.headG, if_neg (by rw [sv]; simp [HNB.out]), if_pos io]
       clear sv io
       go_wp2_with fail
       refine HIO.out.mono ?_
       rintro e w2 ⟨rfl, hww⟩
       obtain rfl : w = w2 := hww.symm
       cases hs : E.shut i with
       | none =>
        rw [hs] at hR2 HSH
        dsimp only [placeVal] at HSH
        have hRn : R = none := hR2.symm
        subst hRn
        clear hs hR2
        go_wp2_with fail
        refine HSH.out.mono ?_
        rintro e w3 ⟨rfl, hww⟩
        obtain rfl : w = w3 := hww.symm
        go_wp2
        refine bodyPost_ret (v := .int .i64 (-1)) (by simp [results, Try.results32, go_sem]) rfl ?_
        exact ⟨rfl, Below.refl _ _⟩
       | some j =>
        rw [hs] at hR2 HSH
        dsimp only [placeVal] at HSH
        have hj := (Env.shut_lt hs).2
        obtain ⟨q, hq0⟩ : ∃ q, j + 1 = q := ⟨_, rfl⟩
        have hwq : IntKind.i64.wrap ((j : Int) + 1) = (q : Int) := (wraps_i64 _ (by omega) (by omega)).trans (by omega)
        have hq : q ≤ E.L.length := by omega
        have HRq := Lib.hid (show some (E.tail (E.L.length + 1) q) = R by rw [← hR2, ← hq0]; rfl)
        have dq : decide ((j : Int) < 0) = false := decide_eq_false (by omega)
        clear hs hR2 hq0
        go_wp2_with fail
        refine HSH.out.mono ?_
        rintro e w3 ⟨rfl, hww⟩
        obtain rfl : w = w3 := hww.symm
        have HB := Lib.hid (Below.refl w.heap.size w)
        go_wp2
        go_loopg [1] (E.L.length + 1) (fun f ti wr => ∃ k : Nat, ti = .int .i64 k ∧ k ≤ E.L.length ∧ E.L.length + 1 ≤ k + f ∧ Below w.heap.size w wr ∧ some (E.tail f k) = R)
        case atStart => exact ⟨q, rfl, hq, by omega, HB.out, HRq.out⟩
        case round =>
         obtain ⟨k, rfl, hk, hf, hb, hM⟩ := hrel
         obtain ⟨f, rfl⟩ : ∃ f, gk = f + 1 := ⟨gk - 1, by omega⟩
         have HB1 := Lib.hid hb
         have HE1 := Lib.hid (HE.out.below hb)
         have hp1 := blk_below HP.out hb (blk_lt HP.out)
         have HP1 := Lib.hid hp1
         have c1 := blk_cell hp1 1
         simp only [Env.tail] at hM
         have HS1 := Lib.hid (sign_any E bp p d n k E.aA E.ac E.as_ wr HE1.out hp1 HE1.out.a HE1.out.an)
         clear hb hp1
         cases bs : E.sign k E.as_
         ·rw [bs] at hM HS1
          rw [if_neg Bool.false_ne_true] at hM
          have HPW := Lib.hid (power_any E bp p d n k wr HE1.out HP1.out (by omega))
          clear bs
          cases hpw : E.pow k with
          | none =>
           rw [hpw] at hM HPW
           dsimp only [optVal] at hM HPW
           subst hM
           clear hpw
           go_wp2_with fail
           refine HS1.out.mono ?_
           rintro e w4 ⟨rfl, rfl⟩
           go_wp2_with fail
           refine HPW.out.mono ?_
           rintro e w5 ⟨rfl, hb5⟩
           go_wp2
           refine bodyPost_ret (v := .int .i64 (k : Int)) (by simp [results, Try.results32, go_sem]) rfl ?_
           exact ⟨rfl, below_then HB1.out HB1.out.size hb5⟩
          | some m =>
           rw [hpw] at hM HPW
           dsimp only [optVal] at hM HPW
           have hlt := Env.pow_lt hpw
           have HM := Lib.hid hM
           clear hpw hM
           have hw2 : IntKind.i64.wrap ((k : Int) + 2) = (k : Int) + 2 := wraps_i64 _ (by omega) (by omega)
           go_wp2_with fail
           refine HS1.out.mono ?_
           rintro e w4 ⟨rfl, rfl⟩
           go_wp2_with fail
           refine HPW.out.mono ?_
           rintro e w5 ⟨rfl, hb5⟩
           go_wp2
           go_roundg f
           case rel => exact ⟨k + 2, by go_num, by omega, by omega, below_then HB1.out HB1.out.size hb5, HM.out⟩
           case measure => exact Nat.lt_succ_self f
         ·rw [bs] at hM HS1
          rw [if_pos rfl] at hM
          have hlt := Env.sign_lt bs
          have HM := Lib.hid hM
          clear bs hM
          have hw2 : IntKind.i64.wrap ((k : Int) + 1) = (k : Int) + 1 := wraps_i64 _ (by omega) (by omega)
          go_wp2_with fail
          refine HS1.out.mono ?_
          rintro e w4 ⟨rfl, rfl⟩
          go_wp2
          go_roundg f
          case rel => exact ⟨k + 1, by go_num, by omega, by omega, HB1.out, HM.out⟩
          case measure => exact Nat.lt_succ_self f
     ·rw [sb] at HSB
      have hvl := Env.sign_lt sb
      have hv : (E.sign i E.vs || (true && E.sign i E.bs)) = true := by rw [sb, sv]; rfl
      clear sb sv
      have hkl : i < E.L.length := hvl
      obtain ⟨q, hq0⟩ : ∃ q, i + 1 = q := ⟨_, rfl⟩
      have hwq : IntKind.i64.wrap ((i : Int) + 1) = (q : Int) := (wraps_i64 _ (by omega) (by omega)).trans (by omega)
      have hq : q ≤ E.L.length := by omega
      have HRq := Lib.hid (show some (E.tail (E.L.length + 1) q) = R by rw [← HR.out, Env.headG, if_pos hv, ← hq0]; rfl)
      have HB := HB0
      clear hvl hv hq0 HB0

      go_wp2_with fail
      refine HSB.out.mono ?_
      rintro e w2 ⟨rfl, hww⟩
      obtain rfl : w = w2 := hww.symm
      go_wp2
      go_loopg [1] (E.L.length + 1) (fun f ti wr => ∃ k : Nat, ti = .int .i64 k ∧ k ≤ E.L.length ∧ E.L.length + 1 ≤ k + f ∧ Below w.heap.size w wr ∧ some (E.tail f k) = R)
      case atStart => exact ⟨q, rfl, hq, by omega, HB.out, HRq.out⟩
      case round =>
       obtain ⟨k, rfl, hk, hf, hb, hM⟩ := hrel
       obtain ⟨f, rfl⟩ : ∃ f, gk = f + 1 := ⟨gk - 1, by omega⟩
       have HB1 := Lib.hid hb
       have HE1 := Lib.hid (HE.out.below hb)
       have hp1 := blk_below HP.out hb (blk_lt HP.out)
       have HP1 := Lib.hid hp1
       have c1 := blk_cell hp1 1
       simp only [Env.tail] at hM
       have HS1 := Lib.hid (sign_any E bp p d n k E.aA E.ac E.as_ wr HE1.out hp1 HE1.out.a HE1.out.an)
       clear hb hp1
       cases bs : E.sign k E.as_
       ·rw [bs] at hM HS1
        rw [if_neg Bool.false_ne_true] at hM
        have HPW := Lib.hid (power_any E bp p d n k wr HE1.out HP1.out (by omega))
        clear bs
        cases hpw : E.pow k with
        | none =>
         rw [hpw] at hM HPW
         dsimp only [optVal] at hM HPW
         subst hM
         clear hpw
         go_wp2_with fail
         refine HS1.out.mono ?_
         rintro e w4 ⟨rfl, rfl⟩
         go_wp2_with fail
         refine HPW.out.mono ?_
         rintro e w5 ⟨rfl, hb5⟩
         go_wp2
         refine bodyPost_ret (v := .int .i64 (k : Int)) (by simp [results, Try.results32, go_sem]) rfl ?_
         exact ⟨rfl, below_then HB1.out HB1.out.size hb5⟩
        | some m =>
         rw [hpw] at hM HPW
         dsimp only [optVal] at hM HPW
         have hlt := Env.pow_lt hpw
         have HM := Lib.hid hM
         clear hpw hM
         have hw2 : IntKind.i64.wrap ((k : Int) + 2) = (k : Int) + 2 := wraps_i64 _ (by omega) (by omega)
         go_wp2_with fail
         refine HS1.out.mono ?_
         rintro e w4 ⟨rfl, rfl⟩
         go_wp2_with fail
         refine HPW.out.mono ?_
         rintro e w5 ⟨rfl, hb5⟩
         go_wp2
         go_roundg f
         case rel => exact ⟨k + 2, by go_num, by omega, by omega, below_then HB1.out HB1.out.size hb5, HM.out⟩
         case measure => exact Nat.lt_succ_self f
       ·rw [bs] at hM HS1
        rw [if_pos rfl] at hM
        have hlt := Env.sign_lt bs
        have HM := Lib.hid hM
        clear bs hM
        have hw2 : IntKind.i64.wrap ((k : Int) + 1) = (k : Int) + 1 := wraps_i64 _ (by omega) (by omega)
        go_wp2_with fail
        refine HS1.out.mono ?_
        rintro e w4 ⟨rfl, rfl⟩
        go_wp2
        go_roundg f
        case rel => exact ⟨k + 1, by go_num, by omega, by omega, HB1.out, HM.out⟩
        case measure => exact Nat.lt_succ_self f
   ·rw [sv] at HSV
    have hvl := Env.sign_lt sv
    have hv : (E.sign i E.vs || (b && E.sign i E.bs)) = true := by rw [sv]; rfl
    clear sv
    have hkl : i < E.L.length := hvl
    obtain ⟨q, hq0⟩ : ∃ q, i + 1 = q := ⟨_, rfl⟩
    have hwq : IntKind.i64.wrap ((i : Int) + 1) = (q : Int) := (wraps_i64 _ (by omega) (by omega)).trans (by omega)
    have hq : q ≤ E.L.length := by omega
    have HRq := Lib.hid (show some (E.tail (E.L.length + 1) q) = R by rw [← HR.out, Env.headG, if_pos hv, ← hq0]; rfl)
    have HB := HB0
    clear hvl hv hq0 HB0

    go_wp2_with fail
    refine HSV.out.mono ?_
    rintro e w2 ⟨rfl, hww⟩
    obtain rfl : w = w2 := hww.symm
    go_wp2
    go_loopg [1] (E.L.length + 1) (fun f ti wr => ∃ k : Nat, ti = .int .i64 k ∧ k ≤ E.L.length ∧ E.L.length + 1 ≤ k + f ∧ Below w.heap.size w wr ∧ some (E.tail f k) = R)
    case atStart => exact ⟨q, rfl, hq, by omega, HB.out, HRq.out⟩
    case round =>
     obtain ⟨k, rfl, hk, hf, hb, hM⟩ := hrel
     obtain ⟨f, rfl⟩ : ∃ f, gk = f + 1 := ⟨gk - 1, by omega⟩
     have HB1 := Lib.hid hb
     have HE1 := Lib.hid (HE.out.below hb)
     have hp1 := blk_below HP.out hb (blk_lt HP.out)
     have HP1 := Lib.hid hp1
     have c1 := blk_cell hp1 1
     simp only [Env.tail] at hM
     have HS1 := Lib.hid (sign_any E bp p d n k E.aA E.ac E.as_ wr HE1.out hp1 HE1.out.a HE1.out.an)
     clear hb hp1
     cases bs : E.sign k E.as_
     ·rw [bs] at hM HS1
      rw [if_neg Bool.false_ne_true] at hM
      have HPW := Lib.hid (power_any E bp p d n k wr HE1.out HP1.out (by omega))
      clear bs
      cases hpw : E.pow k with
      | none =>
       rw [hpw] at hM HPW
       dsimp only [optVal] at hM HPW
       subst hM
       clear hpw
       go_wp2_with fail
       refine HS1.out.mono ?_
       rintro e w4 ⟨rfl, rfl⟩
       go_wp2_with fail
       refine HPW.out.mono ?_
       rintro e w5 ⟨rfl, hb5⟩
       go_wp2
       refine bodyPost_ret (v := .int .i64 (k : Int)) (by simp [results, Try.results32, go_sem]) rfl ?_
       exact ⟨rfl, below_then HB1.out HB1.out.size hb5⟩
      | some m =>
       rw [hpw] at hM HPW
       dsimp only [optVal] at hM HPW
       have hlt := Env.pow_lt hpw
       have HM := Lib.hid hM
       clear hpw hM
       have hw2 : IntKind.i64.wrap ((k : Int) + 2) = (k : Int) + 2 := wraps_i64 _ (by omega) (by omega)
       go_wp2_with fail
       refine HS1.out.mono ?_
       rintro e w4 ⟨rfl, rfl⟩
       go_wp2_with fail
       refine HPW.out.mono ?_
       rintro e w5 ⟨rfl, hb5⟩
       go_wp2
       go_roundg f
       case rel => exact ⟨k + 2, by go_num, by omega, by omega, below_then HB1.out HB1.out.size hb5, HM.out⟩
       case measure => exact Nat.lt_succ_self f
     ·rw [bs] at hM HS1
      rw [if_pos rfl] at hM
      have hlt := Env.sign_lt bs
      have HM := Lib.hid hM
      clear bs hM
      have hw2 : IntKind.i64.wrap ((k : Int) + 1) = (k : Int) + 1 := wraps_i64 _ (by omega) (by omega)
      go_wp2_with fail
      refine HS1.out.mono ?_
      rintro e w4 ⟨rfl, rfl⟩
      go_wp2
      go_roundg f
      case rel => exact ⟨k + 1, by go_num, by omega, by omega, HB1.out, HM.out⟩
      case measure => exact Nat.lt_succ_self f
  ·rw [bo] at hR HI
   rw [if_pos rfl, show (b && !true) = false by simp] at hR
   have HR := Lib.hid hR
   have hil := Env.is_lt bo
   obtain ⟨k, hki⟩ : ∃ k, i + 1 = k := ⟨_, rfl⟩
   rw [hki] at HR
   have hwk : IntKind.i64.wrap ((i : Int) + 1) = (k : Int) := (wraps_i64 _ (by omega) (by omega)).trans (by omega)
   have hk : k ≤ E.L.length := by omega
   clear hE hp hR bo
   go_enter Try.func32, Try.ntmps32
   go_wp2_with fail
   refine HI.out.mono ?_
   rintro e w2 ⟨rfl, hww⟩
   obtain rfl : w = w2 := hww.symm
   clear HI
   have HSV := Lib.hid (sign_any E bp p d n k E.vA E.vc E.vs w HE.out HP.out HE.out.v HE.out.vn)
   have HSB := Lib.hid (sign_any E bp p d n k E.bA E.bc E.bs w HE.out HP.out HE.out.b HE.out.bn)
   have HIO := Lib.hid (is_any E bp p d n k 5 E.open_ w HE.out HP.out)
   have HIP := Lib.hid (is_any E bp p d n k 5 ⟨#[40]⟩ w HE.out HP.out)
   have HSH := Lib.hid (shut_any E bp p d n k w HE.out HP.out hk)
   have HB0 := Lib.hid (Below.refl w.heap.size w)
   cases sv : E.sign k E.vs
   ·rw [sv] at HSV
    go_wp2_with fail
    refine HSV.out.mono ?_
    rintro e w2 ⟨rfl, hww⟩
    obtain rfl : w = w2 := hww.symm
    have HNB := Lib.hid (show (false && E.sign k E.bs) = false from rfl)
    cases io : E.is k 5 E.open_
    ·rw [io] at HIO
     go_wp2_with fail
     refine HIO.out.mono ?_
     rintro e w2 ⟨rfl, hww⟩
     obtain rfl : w = w2 := hww.symm
     cases ip : E.is k 5 ⟨#[40]⟩
     ·rw [ip] at HIP
      have hRn : R = none := by rw [← HR.out, Env.headG, if_neg (by rw [sv]; simp [HNB.out]), if_neg (by rw [io]; decide), if_neg (by rw [ip]; decide)]; rfl
      subst hRn
      clear sv io ip
      go_wp2_with fail
      refine HIP.out.mono ?_
      rintro e w2 ⟨rfl, hww⟩
      obtain rfl : w = w2 := hww.symm
      go_wp2
      refine bodyPost_ret (v := .int .i64 (-1)) (by simp [results, Try.results32, go_sem]) rfl ?_
      exact ⟨rfl, Below.refl _ _⟩
     ·rw [ip] at HIP
      have hkl := Env.is_lt ip
      have HGR := Lib.hid (group_any E bp p d n false (E.skipF f) k hkl (fun q w h1 h2 h3 h4 => IH.out q false w (by omega) h2 h3 h4) (E.skip_lt f) w HE.out HP.out)
      have hR2 : (E.grpG (E.skipF f) (E.L.length + 1) (k + 1) false 0).map (E.tail (E.L.length + 1)) = R := by rw [← HR.out, Env.headG, if_neg (by rw [sv]; simp [HNB.out]), if_neg (by rw [io]; decide), if_pos ip]
      clear sv io ip
      go_wp2_with fail
      refine HIP.out.mono ?_
      rintro e w2 ⟨rfl, hww⟩
      obtain rfl : w = w2 := hww.symm
      cases hg : E.grpG (E.skipF f) (E.L.length + 1) (k + 1) false 0 with
      | none =>
       rw [hg] at hR2 HGR
       dsimp only [placeVal] at HGR
       have hRn : R = none := hR2.symm
       subst hRn
       clear hg hR2
       go_wp2_with fail
       refine HGR.out.mono ?_
       rintro e w3 ⟨rfl, hb3⟩
       go_wp2
       refine bodyPost_ret (v := .int .i64 (-1)) (by simp [results, Try.results32, go_sem]) rfl ?_
       exact ⟨rfl, hb3⟩
      | some q =>
       rw [hg] at hR2 HGR
       dsimp only [placeVal] at HGR
       have hq := (Env.grp_lt (E.skip_lt f) _ _ _ _ _ hg).2
       have HRq := Lib.hid (show some (E.tail (E.L.length + 1) q) = R from hR2)
       have dq : decide ((q : Int) < 0) = false := decide_eq_false (by omega)
       clear hg hR2
       go_wp2_with fail
       refine HGR.out.mono ?_
       rintro e w3 ⟨rfl, hb3⟩
       have HB := Lib.hid hb3
       clear hb3
       go_wp2
       go_loopg [1] (E.L.length + 1) (fun f ti wr => ∃ k : Nat, ti = .int .i64 k ∧ k ≤ E.L.length ∧ E.L.length + 1 ≤ k + f ∧ Below w.heap.size w wr ∧ some (E.tail f k) = R)
       case atStart => exact ⟨q, rfl, hq, by omega, HB.out, HRq.out⟩
       case round =>
        obtain ⟨k, rfl, hk, hf, hb, hM⟩ := hrel
        obtain ⟨f, rfl⟩ : ∃ f, gk = f + 1 := ⟨gk - 1, by omega⟩
        have HB1 := Lib.hid hb
        have HE1 := Lib.hid (HE.out.below hb)
        have hp1 := blk_below HP.out hb (blk_lt HP.out)
        have HP1 := Lib.hid hp1
        have c1 := blk_cell hp1 1
        simp only [Env.tail] at hM
        have HS1 := Lib.hid (sign_any E bp p d n k E.aA E.ac E.as_ wr HE1.out hp1 HE1.out.a HE1.out.an)
        clear hb hp1
        cases bs : E.sign k E.as_
        ·rw [bs] at hM HS1
         rw [if_neg Bool.false_ne_true] at hM
         have HPW := Lib.hid (power_any E bp p d n k wr HE1.out HP1.out (by omega))
         clear bs
         cases hpw : E.pow k with
         | none =>
          rw [hpw] at hM HPW
          dsimp only [optVal] at hM HPW
          subst hM
          clear hpw
          go_wp2_with fail
          refine HS1.out.mono ?_
          rintro e w4 ⟨rfl, rfl⟩
          go_wp2_with fail
          refine HPW.out.mono ?_
          rintro e w5 ⟨rfl, hb5⟩
          go_wp2
          refine bodyPost_ret (v := .int .i64 (k : Int)) (by simp [results, Try.results32, go_sem]) rfl ?_
          exact ⟨rfl, below_then HB1.out HB1.out.size hb5⟩
         | some m =>
          rw [hpw] at hM HPW
          dsimp only [optVal] at hM HPW
          have hlt := Env.pow_lt hpw
          have HM := Lib.hid hM
          clear hpw hM
          have hw2 : IntKind.i64.wrap ((k : Int) + 2) = (k : Int) + 2 := wraps_i64 _ (by omega) (by omega)
          go_wp2_with fail
          refine HS1.out.mono ?_
          rintro e w4 ⟨rfl, rfl⟩
          go_wp2_with fail
          refine HPW.out.mono ?_
          rintro e w5 ⟨rfl, hb5⟩
          go_wp2
          go_roundg f
          case rel => exact ⟨k + 2, by go_num, by omega, by omega, below_then HB1.out HB1.out.size hb5, HM.out⟩
          case measure => exact Nat.lt_succ_self f
        ·rw [bs] at hM HS1
         rw [if_pos rfl] at hM
         have hlt := Env.sign_lt bs
         have HM := Lib.hid hM
         clear bs hM
         have hw2 : IntKind.i64.wrap ((k : Int) + 1) = (k : Int) + 1 := wraps_i64 _ (by omega) (by omega)
         go_wp2_with fail
         refine HS1.out.mono ?_
         rintro e w4 ⟨rfl, rfl⟩
         go_wp2
         go_roundg f
         case rel => exact ⟨k + 1, by go_num, by omega, by omega, HB1.out, HM.out⟩
         case measure => exact Nat.lt_succ_self f
    ·rw [io] at HIO
     have hkl := Env.is_lt io
     have hR2 : ((E.shut k).map (· + 1)).map (E.tail (E.L.length + 1)) = R := by rw [← HR.out, Env.headG, if_neg (by rw [sv]; simp [HNB.out]), if_pos io]
     clear sv io
     go_wp2_with fail
     refine HIO.out.mono ?_
     rintro e w2 ⟨rfl, hww⟩
     obtain rfl : w = w2 := hww.symm
     cases hs : E.shut k with
     | none =>
      rw [hs] at hR2 HSH
      dsimp only [placeVal] at HSH
      have hRn : R = none := hR2.symm
      subst hRn
      clear hs hR2
      go_wp2_with fail
      refine HSH.out.mono ?_
      rintro e w3 ⟨rfl, hww⟩
      obtain rfl : w = w3 := hww.symm
      go_wp2
      refine bodyPost_ret (v := .int .i64 (-1)) (by simp [results, Try.results32, go_sem]) rfl ?_
      exact ⟨rfl, Below.refl _ _⟩
     | some j =>
      rw [hs] at hR2 HSH
      dsimp only [placeVal] at HSH
      have hj := (Env.shut_lt hs).2
      obtain ⟨q, hq0⟩ : ∃ q, j + 1 = q := ⟨_, rfl⟩
      have hwq : IntKind.i64.wrap ((j : Int) + 1) = (q : Int) := (wraps_i64 _ (by omega) (by omega)).trans (by omega)
      have hq : q ≤ E.L.length := by omega
      have HRq := Lib.hid (show some (E.tail (E.L.length + 1) q) = R by rw [← hR2, ← hq0]; rfl)
      have dq : decide ((j : Int) < 0) = false := decide_eq_false (by omega)
      clear hs hR2 hq0
      go_wp2_with fail
      refine HSH.out.mono ?_
      rintro e w3 ⟨rfl, hww⟩
      obtain rfl : w = w3 := hww.symm
      have HB := Lib.hid (Below.refl w.heap.size w)
      go_wp2
      go_loopg [1] (E.L.length + 1) (fun f ti wr => ∃ k : Nat, ti = .int .i64 k ∧ k ≤ E.L.length ∧ E.L.length + 1 ≤ k + f ∧ Below w.heap.size w wr ∧ some (E.tail f k) = R)
      case atStart => exact ⟨q, rfl, hq, by omega, HB.out, HRq.out⟩
      case round =>
       obtain ⟨k, rfl, hk, hf, hb, hM⟩ := hrel
       obtain ⟨f, rfl⟩ : ∃ f, gk = f + 1 := ⟨gk - 1, by omega⟩
       have HB1 := Lib.hid hb
       have HE1 := Lib.hid (HE.out.below hb)
       have hp1 := blk_below HP.out hb (blk_lt HP.out)
       have HP1 := Lib.hid hp1
       have c1 := blk_cell hp1 1
       simp only [Env.tail] at hM
       have HS1 := Lib.hid (sign_any E bp p d n k E.aA E.ac E.as_ wr HE1.out hp1 HE1.out.a HE1.out.an)
       clear hb hp1
       cases bs : E.sign k E.as_
       ·rw [bs] at hM HS1
        rw [if_neg Bool.false_ne_true] at hM
        have HPW := Lib.hid (power_any E bp p d n k wr HE1.out HP1.out (by omega))
        clear bs
        cases hpw : E.pow k with
        | none =>
         rw [hpw] at hM HPW
         dsimp only [optVal] at hM HPW
         subst hM
         clear hpw
         go_wp2_with fail
         refine HS1.out.mono ?_
         rintro e w4 ⟨rfl, rfl⟩
         go_wp2_with fail
         refine HPW.out.mono ?_
         rintro e w5 ⟨rfl, hb5⟩
         go_wp2
         refine bodyPost_ret (v := .int .i64 (k : Int)) (by simp [results, Try.results32, go_sem]) rfl ?_
         exact ⟨rfl, below_then HB1.out HB1.out.size hb5⟩
        | some m =>
         rw [hpw] at hM HPW
         dsimp only [optVal] at hM HPW
         have hlt := Env.pow_lt hpw
         have HM := Lib.hid hM
         clear hpw hM
         have hw2 : IntKind.i64.wrap ((k : Int) + 2) = (k : Int) + 2 := wraps_i64 _ (by omega) (by omega)
         go_wp2_with fail
         refine HS1.out.mono ?_
         rintro e w4 ⟨rfl, rfl⟩
         go_wp2_with fail
         refine HPW.out.mono ?_
         rintro e w5 ⟨rfl, hb5⟩
         go_wp2
         go_roundg f
         case rel => exact ⟨k + 2, by go_num, by omega, by omega, below_then HB1.out HB1.out.size hb5, HM.out⟩
         case measure => exact Nat.lt_succ_self f
       ·rw [bs] at hM HS1
        rw [if_pos rfl] at hM
        have hlt := Env.sign_lt bs
        have HM := Lib.hid hM
        clear bs hM
        have hw2 : IntKind.i64.wrap ((k : Int) + 1) = (k : Int) + 1 := wraps_i64 _ (by omega) (by omega)
        go_wp2_with fail
        refine HS1.out.mono ?_
        rintro e w4 ⟨rfl, rfl⟩
        go_wp2
        go_roundg f
        case rel => exact ⟨k + 1, by go_num, by omega, by omega, HB1.out, HM.out⟩
        case measure => exact Nat.lt_succ_self f
   ·rw [sv] at HSV
    have hvl := Env.sign_lt sv
    have hv : (E.sign k E.vs || (false && E.sign k E.bs)) = true := by rw [sv]; rfl
    clear sv
    have hkl : k < E.L.length := hvl
    obtain ⟨q, hq0⟩ : ∃ q, k + 1 = q := ⟨_, rfl⟩
    have hwq : IntKind.i64.wrap ((k : Int) + 1) = (q : Int) := (wraps_i64 _ (by omega) (by omega)).trans (by omega)
    have hq : q ≤ E.L.length := by omega
    have HRq := Lib.hid (show some (E.tail (E.L.length + 1) q) = R by rw [← HR.out, Env.headG, if_pos hv, ← hq0]; rfl)
    have HB := HB0
    clear hvl hv hq0 HB0

    go_wp2_with fail
    refine HSV.out.mono ?_
    rintro e w2 ⟨rfl, hww⟩
    obtain rfl : w = w2 := hww.symm
    go_wp2
    go_loopg [1] (E.L.length + 1) (fun f ti wr => ∃ k : Nat, ti = .int .i64 k ∧ k ≤ E.L.length ∧ E.L.length + 1 ≤ k + f ∧ Below w.heap.size w wr ∧ some (E.tail f k) = R)
    case atStart => exact ⟨q, rfl, hq, by omega, HB.out, HRq.out⟩
    case round =>
     obtain ⟨k, rfl, hk, hf, hb, hM⟩ := hrel
     obtain ⟨f, rfl⟩ : ∃ f, gk = f + 1 := ⟨gk - 1, by omega⟩
     have HB1 := Lib.hid hb
     have HE1 := Lib.hid (HE.out.below hb)
     have hp1 := blk_below HP.out hb (blk_lt HP.out)
     have HP1 := Lib.hid hp1
     have c1 := blk_cell hp1 1
     simp only [Env.tail] at hM
     have HS1 := Lib.hid (sign_any E bp p d n k E.aA E.ac E.as_ wr HE1.out hp1 HE1.out.a HE1.out.an)
     clear hb hp1
     cases bs : E.sign k E.as_
     ·rw [bs] at hM HS1
      rw [if_neg Bool.false_ne_true] at hM
      have HPW := Lib.hid (power_any E bp p d n k wr HE1.out HP1.out (by omega))
      clear bs
      cases hpw : E.pow k with
      | none =>
       rw [hpw] at hM HPW
       dsimp only [optVal] at hM HPW
       subst hM
       clear hpw
       go_wp2_with fail
       refine HS1.out.mono ?_
       rintro e w4 ⟨rfl, rfl⟩
       go_wp2_with fail
       refine HPW.out.mono ?_
       rintro e w5 ⟨rfl, hb5⟩
       go_wp2
       refine bodyPost_ret (v := .int .i64 (k : Int)) (by simp [results, Try.results32, go_sem]) rfl ?_
       exact ⟨rfl, below_then HB1.out HB1.out.size hb5⟩
      | some m =>
       rw [hpw] at hM HPW
       dsimp only [optVal] at hM HPW
       have hlt := Env.pow_lt hpw
       have HM := Lib.hid hM
       clear hpw hM
       have hw2 : IntKind.i64.wrap ((k : Int) + 2) = (k : Int) + 2 := wraps_i64 _ (by omega) (by omega)
       go_wp2_with fail
       refine HS1.out.mono ?_
       rintro e w4 ⟨rfl, rfl⟩
       go_wp2_with fail
       refine HPW.out.mono ?_
       rintro e w5 ⟨rfl, hb5⟩
       go_wp2
       go_roundg f
       case rel => exact ⟨k + 2, by go_num, by omega, by omega, below_then HB1.out HB1.out.size hb5, HM.out⟩
       case measure => exact Nat.lt_succ_self f
     ·rw [bs] at hM HS1
      rw [if_pos rfl] at hM
      have hlt := Env.sign_lt bs
      have HM := Lib.hid hM
      clear bs hM
      have hw2 : IntKind.i64.wrap ((k : Int) + 1) = (k : Int) + 1 := wraps_i64 _ (by omega) (by omega)
      go_wp2_with fail
      refine HS1.out.mono ?_
      rintro e w4 ⟨rfl, rfl⟩
      go_wp2
      go_roundg f
      case rel => exact ⟨k + 1, by go_num, by omega, by omega, HB1.out, HM.out⟩
      case measure => exact Nat.lt_succ_self f
end Go.Proofs.Ytollglblkbjgjaa
