/- Small steps used in the walks. -/
import Derived.Test.YtnbdhclkmcfdfaaShSeat
import Derived.Test.YtnbdhclkmcfdfaaMaHouse
namespace Go.Proofs.Ytnbdhclkmcfdfaa.Sh
open Go
set_option linter.unusedVariables false

theorem Ck_lt {a b : Nat} {K : Prop} (h : a < b) (k : K) : Ck (Nat.blt a b) K := Ck_b (Nat.ble_eq_true_of_le h) k
theorem Ck_le {a b : Nat} {K : Prop} (h : a ≤ b) (k : K) : Ck (Nat.ble a b) K := Ck_b (Nat.ble_eq_true_of_le h) k
theorem Ck_room {a : Nat} {K : Prop} (h : a ≤ 1099511627776) (k : K) : Ck (Nat.ble a roomy) K := Ck_b (Nat.ble_eq_true_of_le h) k
theorem Ck_roomI {a : Int} {K : Prop} (h : a ≤ 1099511627776) (k : K) : Ck (decide (a ≤ (roomy : Int))) K := Ck_d h k
theorem Ck_n {p : Prop} [Decidable p] {K : Prop} (h : ¬ p) (k : K) : Ck (!decide p) K := by rw [decide_eq_false h]; exact k
theorem wS {i : Nat} (h : i + 1 < 9223372036854775808) : IntKind.wrap .i64 ((i : Int) + 1) = ((i + 1 : Nat) : Int) := by
  rw [wrap64 (by omega) (by omega)]; omega
theorem wP {i : Nat} (h : i + 1 < 9223372036854775808) : IntKind.wrap .i64 (((i + 1 : Nat) : Int) - 1) = (i : Int) := by
  rw [wrap64 (by omega) (by omega)]; omega
theorem Br_t {p : Prop} [Decidable p] {A B : Prop} (h : p) (a : A) : Br (decide p) A B := by rw [decide_eq_true h]; exact a
theorem Br_f {p : Prop} [Decidable p] {A B : Prop} (h : ¬ p) (b : B) : Br (decide p) A B := by rw [decide_eq_false h]; exact b
/-- branch on a negation -/
theorem Br_nb {c : Bool} {A B : Prop} (ha : c = false → A) (hb : c = true → B) : Br (!c) A B := by
  cases c
  · exact ha rfl
  · exact hb rfl
theorem Br_nd {p : Prop} [Decidable p] {A B : Prop} (ha : ¬ p → A) (hb : p → B) : Br (!decide p) A B := by
  by_cases h : p
  · rw [decide_eq_true h]; exact hb h
  · rw [decide_eq_false h]; exact ha h
theorem cond_t {α : Type} {c : Bool} {a b : α} (h : c = true) : (bif c then a else b) = a := by rw [h]; rfl
theorem cond_f {α : Type} {c : Bool} {a b : α} (h : c = false) : (bif c then a else b) = b := by rw [h]; rfl
theorem allR_t {p : Nat → Bool} {i n : Nat} (h : p i = true) : allR p i (n + 1) = allR p (i + 1) n := by rw [allR, h, Bool.true_and]
theorem allR_f {p : Nat → Bool} {i n : Nat} (h : p i = false) : allR p i (n + 1) = false := by rw [allR, h, Bool.false_and]

/-! ## from ShSeal -/
theorem avs_seal {A : Nat → Prop} {ρ : Rho} {cs cs' : List Cell} {h : Heap} {r : Nat} (ha : avs A ρ [.box cs'] r) : avs A ρ (.box cs :: h) r := by
  rcases ha with ha | ⟨b, blk, base, h1, h2, h3⟩
  · exact .inl ha
  · match b, h1 with
    | 0, h1 => exact .inr ⟨0, .box cs, base, rfl, rfl, h3⟩
theorem sealed {A : Nat → Prop} {ρ : Rho} {w : World} {cs cs' : List Cell} {h : Heap} (hH : RelH A ρ (.box cs :: h) w) {b : Nat} {t : Ty} {l : List t.D} {s : RS} (hb : h[b]? = some (.row t l s)) {v : Value}
    (hc : RelC w (avs A ρ (.box cs :: h)) ρ (.box cs :: h) (.sl (b + 1) none) v) : RelC w (avs A ρ [.box cs']) ρ [.box cs'] (.ro t l) v := by
  have hb' : (Blk.box cs :: h)[b + 1]? = some (.row t l s) := hb
  have hlt : b + 1 < (Blk.box cs :: h).length := lt_of_get hb'
  refine sl_data (wn := none) hc hb' (hH.blk _ _ hb') (fun r base e ha => ?_) (fun r ha => avs_seal ha)
  rcases ha with ha | ⟨c, blk, base', h1, h2, h3⟩
  · exact (hH.out _ r base hlt e).2 ha
  · match c, h1 with
    | 0, h1 =>
      have := hH.inj _ _ r base base' hlt (by simp) e h3
      omega
theorem SC.told2 {P : Program} {f : Nat} {args : List W} {t1 t2 : Ty} {l1 : List t1.D} {l2 : List t2.D} {s1 s2 : RS} (h : SC P f args [] [.one (.ptr 0 0 0)] [.box [.sl 1 none, .sl 2 none], .row t1 l1 s1, .row t2 l2 s2]) :
    SC P f args [] [.one (.ptr 0 0 0)] [.box [.ro t1 l1, .ro t2 l2]] := by
  intro w vs ρ A hH hA
  refine (h w vs ρ A hH hA).mono fun e w' ⟨v, ρ', he, hH', hr, hfr, hlen, k1, k2, k3, k4⟩ => ?_
  refine ⟨v, ρ', he, ⟨fun b b' r base base' hb hb' => hH'.inj b b' r base base' (by simp at hb ⊢; omega) (by simp at hb' ⊢; omega), fun b x hx => ?_, fun b r base hb => hH'.out b r base (by simp at hb ⊢; omega), hH'.A⟩, ?_, hfr, Nat.zero_le _, fun b x _ hb => absurd hb (Nat.not_lt_zero _), fun b r base hb => absurd hb (Nat.not_lt_zero _), fun b r base h0 hb => k3 b r base h0 (by simp at hb ⊢; omega), fun b x hx => by cases hx⟩
  · match b, hx with
    | 0, hx =>
      cases hx
      obtain ⟨r, cs, ty, hρ, hw, ha⟩ := hH'.blk 0 _ rfl
      refine ⟨r, cs, ty, hρ, hw, ?_⟩
      generalize cs.toList = xs at ha
      cases ha with
      | cons a1 ha => cases ha with
        | cons a2 ha => cases ha with
          | nil => exact .cons (sealed (b := 0) hH' rfl a1) (.cons (sealed (b := 1) hH' rfl a2) .nil)
  · obtain ⟨blk, r, base, h1, h2, h3⟩ := hr
    cases h1
    exact ⟨_, r, base, rfl, h2, h3⟩
theorem SC.toldNil {P : Program} {f : Nat} {args : List W} {t1 t2 : Ty} (h : SC P f args [] [.one (.ptr 0 0 0)] [.box [.nil, .nil]]) : SC P f args [] [.one (.ptr 0 0 0)] [.box [.ro t1 [], .ro t2 []]] := by
  intro w vs ρ A hH hA
  refine (h w vs ρ A hH hA).mono fun e w' ⟨v, ρ', he, hH', hr, hfr, hlen, k1, k2, k3, k4⟩ => ?_
  refine ⟨v, ρ', he, ⟨fun b b' r base base' hb hb' => hH'.inj b b' r base base' (by simp at hb ⊢; omega) (by simp at hb' ⊢; omega), fun b x hx => ?_, fun b r base hb => hH'.out b r base (by simp at hb ⊢; omega), hH'.A⟩, ?_, hfr, Nat.zero_le _, fun b x _ hb => absurd hb (Nat.not_lt_zero _), fun b r base hb => absurd hb (Nat.not_lt_zero _), fun b r base h0 hb => k3 b r base h0 (by simp at hb ⊢; omega), fun b x hx => by cases hx⟩
  · match b, hx with
    | 0, hx =>
      cases hx
      obtain ⟨r, cs, ty, hρ, hw, ha⟩ := hH'.blk 0 _ rfl
      refine ⟨r, cs, ty, hρ, hw, ?_⟩
      generalize cs.toList = xs at ha
      have hn : ∀ (t : Ty) (v : Value), RelC w' (avs A ρ' [.box [.nil, .nil]]) ρ' [.box [.nil, .nil]] .nil v → RelC w' (avs A ρ' [.box [.ro t1 [], .ro t2 []]]) ρ' [.box [.ro t1 [], .ro t2 []]] (.ro t []) v := by
        intro t v hv
        exact ⟨none, 0, by rw [show v = .slice none 0 0 from hv]; rfl, Nat.le_refl _, fun i x hx => by cases hx⟩
      cases ha with
      | cons a1 ha => cases ha with
        | cons a2 ha => cases ha with
          | nil => exact .cons (hn _ _ a1) (.cons (hn _ _ a2) .nil)
  · obtain ⟨blk, r, base, h1, h2, h3⟩ := hr
    cases h1
    exact ⟨_, r, base, rfl, h2, h3⟩

/-! ## from ShWeak -/
def wHole (t : Ty) (l : List t.D) (h : Heap) : Heap := .box [.sl 1 none] :: .row t l .own :: h
def wPart (t : Ty) (l : List t.D) (h : Heap) : Heap := .box [.sl 1 (some (0, l.length))] :: .row t l .moved :: h
theorem whole_at {t : Ty} {l : List t.D} {h : Heap} {b : Nat} {x : Blk} (hx : (wHole t l h)[b]? = some x) :
    (b = 0 ∧ x = .box [.sl 1 none] ∧ (wPart t l h)[b]? = some (.box [.sl 1 (some (0, l.length))])) ∨ (b = 1 ∧ x = .row t l .own ∧ (wPart t l h)[b]? = some (.row t l .moved)) ∨ (wPart t l h)[b]? = some x := by
  match b, hx with
  | 0, hx => exact .inl ⟨rfl, by cases hx; rfl, rfl⟩
  | 1, hx => exact .inr (.inl ⟨rfl, by cases hx; rfl, rfl⟩)
  | n + 2, hx => exact .inr (.inr hx)
theorem part_at {t : Ty} {l : List t.D} {h : Heap} {b : Nat} {x : Blk} (hx : (wPart t l h)[b]? = some x) :
    (b = 0 ∧ x = .box [.sl 1 (some (0, l.length))] ∧ (wHole t l h)[b]? = some (.box [.sl 1 none])) ∨ (b = 1 ∧ x = .row t l .moved ∧ (wHole t l h)[b]? = some (.row t l .own)) ∨ (wHole t l h)[b]? = some x := by
  match b, hx with
  | 0, hx => exact .inl ⟨rfl, by cases hx; rfl, rfl⟩
  | 1, hx => exact .inr (.inl ⟨rfl, by cases hx; rfl, rfl⟩)
  | n + 2, hx => exact .inr (.inr hx)
theorem part_len {t : Ty} {l : List t.D} {h : Heap} : (wPart t l h).length = (wHole t l h).length := rfl
theorem avs_part {A : Nat → Prop} {ρ : Rho} {t : Ty} {l : List t.D} {h : Heap} : avs A ρ (wHole t l h) = avs A ρ (wPart t l h) := by
  funext r
  refine propext ⟨fun ha => ?_, fun ha => ?_⟩
  · rcases ha with ha | ⟨b, blk, base, h1, h2, h3⟩
    · exact .inl ha
    · rcases whole_at h1 with ⟨_, _, e⟩ | ⟨_, _, e⟩ | e
      · exact .inr ⟨b, _, base, e, rfl, h3⟩
      · exact .inr ⟨b, _, base, e, rfl, h3⟩
      · exact .inr ⟨b, _, base, e, h2, h3⟩
  · rcases ha with ha | ⟨b, blk, base, h1, h2, h3⟩
    · exact .inl ha
    · rcases part_at h1 with ⟨_, _, e⟩ | ⟨_, _, e⟩ | e
      · exact .inr ⟨b, _, base, e, rfl, h3⟩
      · exact .inr ⟨b, _, base, e, rfl, h3⟩
      · exact .inr ⟨b, _, base, e, h2, h3⟩
theorem relC_part {w : World} {av : Nat → Prop} {ρ : Rho} {t : Ty} {l : List t.D} {h : Heap} {c : Cell} {v : Value} (hc : RelC w av ρ (wHole t l h) c v) : RelC w av ρ (wPart t l h) c v := by
  cases c with
  | undef => exact hc
  | bool b => exact hc
  | int k n => exact hc
  | nil => exact hc
  | ro t l => exact hc
  | sl b wn =>
    obtain ⟨t', l', s, o, n, ad, cp, h1, h2⟩ := hc
    rcases whole_at h1 with ⟨_, e, _⟩ | ⟨_, e, e'⟩ | e
    · cases e
    · cases e; exact ⟨t, l, .moved, o, n, ad, cp, e', h2⟩
    · exact ⟨t', l', s, o, n, ad, cp, e, h2⟩
  | ptr b i o =>
    obtain ⟨blk, r, base, h1, h2, h3⟩ := hc
    rcases whole_at h1 with ⟨_, e, e'⟩ | ⟨_, e, e'⟩ | e
    · subst e; exact ⟨_, r, base, e', h2, h3⟩
    · subst e; exact ⟨_, r, base, e', h2, h3⟩
    · exact ⟨blk, r, base, e, h2, h3⟩
  | rp t x o => exact hc
  | fn f caps =>
    obtain ⟨arr, e, ha⟩ := hc
    refine ⟨arr, e, ?_⟩
    generalize arr.toList = us at ha
    clear e
    induction ha with
    | nil => exact .nil
    | cons hd tl ih =>
      refine .cons ?_ ih
      obtain ⟨blk, r, base, h1, h2, h3⟩ := hd
      rcases whole_at h1 with ⟨_, e, e'⟩ | ⟨_, e, e'⟩ | e
      · exact ⟨_, r, base, e', h2, h3⟩
      · exact ⟨_, r, base, e', h2, h3⟩
      · exact ⟨blk, r, base, e, h2, h3⟩
theorem All2.imp {α β : Type} {R S : α → β → Prop} (H : ∀ a b, R a b → S a b) : ∀ {as : List α} {bs : List β}, All2 R as bs → All2 S as bs
  | _, _, .nil => .nil
  | _, _, .cons h t => .cons (H _ _ h) (t.imp H)
theorem relW_part {w : World} {av : Nat → Prop} {ρ : Rho} {t : Ty} {l : List t.D} {h : Heap} {x : W} {v : Value} (hx : RelW w av ρ (wHole t l h) x v) : RelW w av ρ (wPart t l h) x v := by
  cases x with
  | one c => exact relC_part hx
  | agg cs =>
    obtain ⟨arr, e, ha⟩ := hx
    exact ⟨arr, e, ha.imp fun _ _ => relC_part⟩
theorem relB_part {w : World} {av : Nat → Prop} {ρ : Rho} {t : Ty} {l : List t.D} {h : Heap} {b : Nat} {x : Blk} (hx : RelB w av ρ (wHole t l h) b x) : RelB w av ρ (wPart t l h) b x := by
  cases x with
  | row t' l' s => exact hx
  | box cs =>
    obtain ⟨r, vs, e, h1, h2, h3⟩ := hx
    exact ⟨r, vs, e, h1, h2, h3.imp fun _ _ => relC_part⟩
theorem SC.seen {P : Program} {f : Nat} {args : List W} {lent : Heap} {x : W} {t : Ty} {l : List t.D} {h : Heap} (hS : SC P f args lent [x] (.box [.sl 1 none] :: .row t l .own :: h)) :
    SC P f args lent [x] (.box [.sl 1 (some (0, l.length))] :: .row t l .moved :: h) := by
  intro w vs ρ A hH hA
  refine (hS w vs ρ A hH hA).mono fun e w' ⟨v, ρ', he, hH', hr, hfr, hlen, k1, k2, k3, k4⟩ => ?_
  have hav : avs A ρ' (wHole t l h) = avs A ρ' (wPart t l h) := avs_part
  have hH' : RelH A ρ' (wHole t l h) w' := hH'
  have hr : RelW w' (avs A ρ' (wHole t l h)) ρ' (wHole t l h) x v := hr
  have k1 : ∀ b y, (wHole t l h)[b]? = some y → b < lent.length → isMoved y = false → ρ' b = ρ b := k1
  have k4 : ∀ (b : Nat) (y : Blk), lent[b]? = some y → ∃ y', (wHole t l h)[b]? = some y' ∧ (isFrz y = true → isFrz y' = true) ∧ (isMoved y' = false → SameShape y y') := k4
  refine ⟨v, ρ', he, ⟨hH'.inj, fun b y hy => ?_, hH'.out, hH'.A⟩, ?_, hfr, hlen, fun b y hy hb hm => ?_, k2, k3, fun b y hy => ?_⟩
  · show RelB w' (avs A ρ' (wPart t l h)) ρ' (wPart t l h) b y
    rw [← hav]
    rcases part_at hy with ⟨rfl, rfl, e'⟩ | ⟨rfl, rfl, e'⟩ | e'
    · obtain ⟨r, cs, ty, h1, h2, h3⟩ := hH'.blk 0 _ e'
      refine ⟨r, cs, ty, h1, h2, ?_⟩
      generalize cs.toList = us at h3
      cases h3 with
      | cons a1 ha => cases ha with
        | nil =>
          refine .cons ?_ .nil
          obtain ⟨t', l', s, o, n, ad, cp, g1, g2, g3⟩ := relC_part a1
          cases g1
          exact ⟨t, l, .moved, o, n, ad, cp, rfl, g2, g3⟩
    · exact relB_part (x := .row t l .moved) (by
        obtain ⟨q1, q2, q3⟩ := hH'.blk 1 _ e'
        exact ⟨q1, q2, fun h => by cases h⟩)
    · exact relB_part (hH'.blk b y e')
  · show RelW w' (avs A ρ' (wPart t l h)) ρ' (wPart t l h) x v
    rw [← hav]
    exact relW_part hr
  · rcases part_at hy with ⟨rfl, rfl, e'⟩ | ⟨rfl, rfl, e'⟩ | e'
    · exact k1 0 _ e' hb rfl
    · cases hm
    · exact k1 b y e' hb hm
  · obtain ⟨y', h1, h2, h3⟩ := k4 b y hy
    show ∃ y', (wPart t l h)[b]? = some y' ∧ _
    rcases whole_at h1 with ⟨rfl, rfl, e'⟩ | ⟨rfl, rfl, e'⟩ | e'
    · exact ⟨_, e', h2, fun _ => by have := h3 rfl; cases y <;> exact this⟩
    · exact ⟨_, e', h2, fun h => by cases h⟩
    · exact ⟨_, e', h2, h3⟩

end Go.Proofs.Ytnbdhclkmcfdfaa.Sh
