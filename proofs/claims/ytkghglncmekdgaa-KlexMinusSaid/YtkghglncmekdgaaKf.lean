/- Contract of the lexer's name. Conditions: the text's bytes are below 128. -/
import Derived.Test.YtkghglncmekdgaaKe
namespace Go.Proofs.Ytkghglncmekdgaa
open Go.RowKit

theorem contains_any (cs : List UInt8) : ∀ s : List UInt8, Lib.containsAny s cs = s.any fun b => cs.contains b
  | [] => by simp [Lib.containsAny, Lib.indexAny]
  | b :: l => by
    have ih := contains_any cs l
    have hge := Lib.indexAny_ge cs l
    show decide (0 ≤ Lib.indexAny (b :: l) cs) = _
    rw [List.any_cons, ← ih]
    have e : Lib.indexAny (b :: l) cs = if cs.contains b then 0 else if Lib.indexAny l cs == -1 then -1 else Lib.indexAny l cs + 1 := rfl
    show _ = (_ || decide (0 ≤ Lib.indexAny l cs))
    generalize Lib.indexAny (b :: l) cs = z at e ⊢
    generalize Lib.indexAny l cs = y at e hge ⊢
    clear ih
    by_cases hb : cs.contains b = true
    · rw [if_pos hb] at e
      subst e
      rw [hb]
      rfl
    · rw [if_neg hb] at e
      have hb' : cs.contains b = false := by simpa using hb
      rw [hb', Bool.false_or]
      by_cases h : y = -1
      · subst h
        subst e
        rfl
      · have : ¬ (y == -1) = true := by simpa using h
        rw [if_neg this] at e
        subst e
        congr 1
        apply propext
        omega

theorem nb_eq_iff (t : ByteArray) (cs : List UInt8) : (t.toList == cs) = (nb t == cs.map fun b => (b.toNat : Int)) := by
  rw [Lib.toList_data]
  unfold nb
  generalize t.data.toList = l
  induction l generalizing cs with
  | nil => cases cs <;> rfl
  | cons b l ih =>
    cases cs with
    | nil => rfl
    | cons c cs =>
      have ih := ih cs
      show ((b == c) && (l == cs)) = (((b.toNat : Int) == (c.toNat : Int)) && (l.map (fun x : UInt8 => (x.toNat : Int)) == cs.map fun b => (b.toNat : Int)))
      rw [ih]
      congr 1
      by_cases h : b = c
      · subst h; rw [beq_self_eq_true, beq_self_eq_true]
      · have : ¬ (b.toNat : Int) = c.toNat := fun e => h (UInt8.toNat_inj.1 (by omega))
        rw [beq_eq_false_iff_ne.2 h, beq_eq_false_iff_ne.2 this]

theorem nb_any (t : ByteArray) : (t.data.toList.any fun b => ([120, 121, 122] : List UInt8).contains b) = (nb t).any fun c => c == 120 || c == 121 || c == 122 := by
  unfold nb
  rw [List.any_map]
  congr 1
  funext b
  have : ∀ n : Fin 256, ([120, 121, 122] : List UInt8).contains (UInt8.ofNat n) = ((((n : Nat) : Int) == 120) || (((n : Nat) : Int) == 121) || (((n : Nat) : Int) == 122)) := by decide +kernel
  have h := this ⟨b.toNat, b.toNat_lt⟩
  simpa using h

def NameTo (b : Bool) (w : World) (e : Ending) (w' : World) : Prop := e = .returned (.bool b) ∧ Below w.heap.size w w'

theorem name_any (t : ByteArray) (w : World) (hs : t.size ≤ 100000) (ha : ∀ (j : Nat) b, t.data.toList[j]? = some b → b.toNat < 128) :
    Calls Try.prog 28 #[.string t] w (NameTo (Kx.nameOk (nb t)) w) := by
  obtain ⟨r, hr⟩ : ∃ r, Kx.nameOk (nb t) = r := ⟨_, rfl⟩
  rw [hr]
  unfold Kx.nameOk at hr
  have hx := nb_eq_iff t [120]
  have hy := nb_eq_iff t [121]
  have hl := nb_length t
  have hc := Try.strings_ContainsAny_laid t ⟨#[120, 121, 122]⟩ w (by omega) (by decide) ha (by
    intro j b hb
    match j, hb with
    | 0, hb => simp at hb; subst hb; decide
    | 1, hb => simp at hb; subst hb; decide
    | 2, hb => simp at hb; subst hb; decide
    | j + 3, hb => simp at hb)
  have hn := nb_any t
  rw [contains_any] at hc
  have hc' : Calls Try.prog 41 #[.string t, .string ⟨#[120, 121, 122]⟩] w fun e w' => e = .returned (.bool ((nb t).any fun c => c == 120 || c == 121 || c == 122)) ∧ Below w.heap.size w w' := by
    rw [← hn]; exact hc
  clear hc hn
  generalize (nb t).any (fun c => c == 120 || c == 121 || c == 122) = an at hr hc'
  generalize hbx : (nb t == List.map (fun b : UInt8 => (b.toNat : Int)) [120]) = bx at hx
  generalize hby : (nb t == List.map (fun b : UInt8 => (b.toNat : Int)) [121]) = bY at hy
  have hr' : (bx || bY || (decide ((nb t).length ≤ 8) && !an)) = r := by rw [← hr, ← hbx, ← hby]; rfl
  rw [hl] at hr'
  have HR := Lib.hid hr'
  have HC := Lib.hid hc'
  clear hr hr' hc' hbx hby hl ha
  cases bx
  · cases bY
    · by_cases h8 : t.size ≤ 8
      · go_enter Try.func28, Try.ntmps28
        go_wp2_with fail
        refine HC.out.mono ?_
        rintro e w1 ⟨rfl, hb1⟩
        have HB1 := Lib.hid hb1
        clear hb1
        go_wp2
        go_ret
        refine ⟨?_, HB1.out⟩
        rw [← HR.out]
        refine ret_bool ?_
        simp [h8]
      · go_enter Try.func28, Try.ntmps28
        go_wp2
        go_ret
        refine ⟨?_, Below.refl _ _⟩
        rw [← HR.out]
        refine ret_bool ?_
        simp [h8]
    · go_enter Try.func28, Try.ntmps28
      go_wp2
      go_ret
      refine ⟨?_, Below.refl _ _⟩
      rw [← HR.out]
      rfl
  · go_enter Try.func28, Try.ntmps28
    go_wp2
    go_ret
    refine ⟨?_, Below.refl _ _⟩
    rw [← HR.out]
    rfl
end Go.Proofs.Ytkghglncmekdgaa
