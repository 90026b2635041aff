/- Small steps used in the walks. -/
import Derived.Test.YtjoiadaogppmkaaShSeat
import Derived.Test.YtjoiadaogppmkaaMaHouse
namespace Go.Proofs.Ytjoiadaogppmkaa.Sh
open Go
set_option linter.unusedVariables false

theorem Ck_lt {a b : Nat} {K : Prop} (h : a < b) (k : K) : Ck (Nat.blt a b) K := Ck_b (Nat.ble_eq_true_of_le h) k
theorem Ck_le {a b : Nat} {K : Prop} (h : a ≤ b) (k : K) : Ck (Nat.ble a b) K := Ck_b (Nat.ble_eq_true_of_le h) k
theorem Ck_room {a : Nat} {K : Prop} (h : a ≤ 1099511627776) (k : K) : Ck (Nat.ble a roomy) K := Ck_b (Nat.ble_eq_true_of_le h) k
theorem Ck_roomI {a : Int} {K : Prop} (h : a ≤ 1099511627776) (k : K) : Ck (decide (a ≤ (roomy : Int))) K := Ck_d h k
theorem Ck_n {p : Prop} [Decidable p] {K : Prop} (h : ¬ p) (k : K) : Ck (!decide p) K := by rw [decide_eq_false h]; exact k
theorem wS {i : Nat} (h : i + 1 < 9223372036854775808) : IntKind.wrap .i64 ((i : Int) + 1) = ((i + 1 : Nat) : Int) := by
  rw [wrap64 (by omega) (by omega)]; omega
theorem wP {i : Nat} (h : i + 1 < 9223372036854775808) : IntKind.wrap .i64 (((i + 1 : Nat) : Int) - 1) = (i : Int) := by
  rw [wrap64 (by omega) (by omega)]; omega
theorem Br_t {p : Prop} [Decidable p] {A B : Prop} (h : p) (a : A) : Br (decide p) A B := by rw [decide_eq_true h]; exact a
theorem Br_f {p : Prop} [Decidable p] {A B : Prop} (h : ¬ p) (b : B) : Br (decide p) A B := by rw [decide_eq_false h]; exact b
/-- branch on a negation -/
theorem Br_nb {c : Bool} {A B : Prop} (ha : c = false → A) (hb : c = true → B) : Br (!c) A B := by
  cases c
  · exact ha rfl
  · exact hb rfl
theorem Br_nd {p : Prop} [Decidable p] {A B : Prop} (ha : ¬ p → A) (hb : p → B) : Br (!decide p) A B := by
  by_cases h : p
  · rw [decide_eq_true h]; exact hb h
  · rw [decide_eq_false h]; exact ha h
theorem cond_t {α : Type} {c : Bool} {a b : α} (h : c = true) : (bif c then a else b) = a := by rw [h]; rfl
theorem cond_f {α : Type} {c : Bool} {a b : α} (h : c = false) : (bif c then a else b) = b := by rw [h]; rfl
theorem allR_t {p : Nat → Bool} {i n : Nat} (h : p i = true) : allR p i (n + 1) = allR p (i + 1) n := by rw [allR, h, Bool.true_and]
theorem allR_f {p : Nat → Bool} {i n : Nat} (h : p i = false) : allR p i (n + 1) = false := by rw [allR, h, Bool.false_and]

/-! ## from ShSeal -/
theorem avs_seal {A : Nat → Prop} {ρ : Rho} {cs cs' : List Cell} {h : Heap} {r : Nat} (ha : avs A ρ [.box cs'] r) : avs A ρ (.box cs :: h) r := by
  rcases ha with ha | ⟨b, blk, base, h1, h2, h3⟩
  · exact .inl ha
  · match b, h1 with
    | 0, h1 => exact .inr ⟨0, .box cs, base, rfl, rfl, h3⟩
theorem sealed {A : Nat → Prop} {ρ : Rho} {w : World} {cs cs' : List Cell} {h : Heap} (hH : RelH A ρ (.box cs :: h) w) {b : Nat} {t : Ty} {l : List t.D} {s : RS} (hb : h[b]? = some (.row t l s)) {v : Value}
    (hc : RelC w (avs A ρ (.box cs :: h)) ρ (.box cs :: h) (.sl (b + 1) none) v) : RelC w (avs A ρ [.box cs']) ρ [.box cs'] (.ro t l) v := by
  have hb' : (Blk.box cs :: h)[b + 1]? = some (.row t l s) := hb
  have hlt : b + 1 < (Blk.box cs :: h).length := lt_of_get hb'
  refine sl_data (wn := none) hc hb' (hH.blk _ _ hb') (fun r base e ha => ?_) (fun r ha => avs_seal ha)
  rcases ha with ha | ⟨c, blk, base', h1, h2, h3⟩
  · exact (hH.out _ r base hlt e).2 ha
  · match c, h1 with
    | 0, h1 =>
      have := hH.inj _ _ r base base' hlt (by simp) e h3
      omega
theorem SC.told2 {P : Program} {f : Nat} {args : List W} {t1 t2 : Ty} {l1 : List t1.D} {l2 : List t2.D} {s1 s2 : RS} (h : SC P f args [] [.one (.ptr 0 0 0)] [.box [.sl 1 none, .sl 2 none], .row t1 l1 s1, .row t2 l2 s2]) :
    SC P f args [] [.one (.ptr 0 0 0)] [.box [.ro t1 l1, .ro t2 l2]] := by
  intro w vs ρ A hH hA
  refine (h w vs ρ A hH hA).mono fun e w' ⟨v, ρ', he, hH', hr, hfr, hlen, k1, k2, k3, k4⟩ => ?_
  refine ⟨v, ρ', he, ⟨fun b b' r base base' hb hb' => hH'.inj b b' r base base' (by simp at hb ⊢; omega) (by simp at hb' ⊢; omega), fun b x hx => ?_, fun b r base hb => hH'.out b r base (by simp at hb ⊢; omega), hH'.A⟩, ?_, hfr, Nat.zero_le _, fun b x _ hb => absurd hb (Nat.not_lt_zero _), fun b r base hb => absurd hb (Nat.not_lt_zero _), fun b r base h0 hb => k3 b r base h0 (by simp at hb ⊢; omega), fun b x hx => by cases hx⟩
  · match b, hx with
    | 0, hx =>
      cases hx
      obtain ⟨r, cs, ty, hρ, hw, ha⟩ := hH'.blk 0 _ rfl
      refine ⟨r, cs, ty, hρ, hw, ?_⟩
      generalize cs.toList = xs at ha
      cases ha with
      | cons a1 ha => cases ha with
        | cons a2 ha => cases ha with
          | nil => exact .cons (sealed (b := 0) hH' rfl a1) (.cons (sealed (b := 1) hH' rfl a2) .nil)
  · obtain ⟨blk, r, base, h1, h2, h3⟩ := hr
    cases h1
    exact ⟨_, r, base, rfl, h2, h3⟩
theorem SC.toldNil {P : Program} {f : Nat} {args : List W} {t1 t2 : Ty} (h : SC P f args [] [.one (.ptr 0 0 0)] [.box [.nil, .nil]]) : SC P f args [] [.one (.ptr 0 0 0)] [.box [.ro t1 [], .ro t2 []]] := by
  intro w vs ρ A hH hA
  refine (h w vs ρ A hH hA).mono fun e w' ⟨v, ρ', he, hH', hr, hfr, hlen, k1, k2, k3, k4⟩ => ?_
  refine ⟨v, ρ', he, ⟨fun b b' r base base' hb hb' => hH'.inj b b' r base base' (by simp at hb ⊢; omega) (by simp at hb' ⊢; omega), fun b x hx => ?_, fun b r base hb => hH'.out b r base (by simp at hb ⊢; omega), hH'.A⟩, ?_, hfr, Nat.zero_le _, fun b x _ hb => absurd hb (Nat.not_lt_zero _), fun b r base hb => absurd hb (Nat.not_lt_zero _), fun b r base h0 hb => k3 b r base h0 (by simp at hb ⊢; omega), fun b x hx => by cases hx⟩
  · match b, hx with
    | 0, hx =>
      cases hx
      obtain ⟨r, cs, ty, hρ, hw, ha⟩ := hH'.blk 0 _ rfl
      refine ⟨r, cs, ty, hρ, hw, ?_⟩
      generalize cs.toList = xs at ha
      have hn : ∀ (t : Ty) (v : Value), RelC w' (avs A ρ' [.box [.nil, .nil]]) ρ' [.box [.nil, .nil]] .nil v → RelC w' (avs A ρ' [.box [.ro t1 [], .ro t2 []]]) ρ' [.box [.ro t1 [], .ro t2 []]] (.ro t []) v := by
        intro t v hv
        exact ⟨none, 0, by rw [show v = .slice none 0 0 from hv]; rfl, Nat.le_refl _, fun i x hx => by cases hx⟩
      cases ha with
      | cons a1 ha => cases ha with
        | cons a2 ha => cases ha with
          | nil => exact .cons (hn _ _ a1) (.cons (hn _ _ a2) .nil)
  · obtain ⟨blk, r, base, h1, h2, h3⟩ := hr
    cases h1
    exact ⟨_, r, base, rfl, h2, h3⟩

/-! ## from ShWeak -/
def wHole (t : Ty) (l : List t.D) (h : Heap) : Heap := .box [.sl 1 none] :: .row t l .own :: h
def wPart (t : Ty) (l : List t.D) (h : Heap) : Heap := .box [.sl 1 (some (0, l.length))] :: .row t l .moved :: h
theorem whole_at {t : Ty} {l : List t.D} {h : Heap} {b : Nat} {x : Blk} (hx : (wHole t l h)[b]? = some x) :
    (b = 0 ∧ x = .box [.sl 1 none] ∧ (wPart t l h)[b]? = some (.box [.sl 1 (some (0, l.length))])) ∨ (b = 1 ∧ x = .row t l .own ∧ (wPart t l h)[b]? = some (.row t l .moved)) ∨ (wPart t l h)[b]? = some x := by
  match b, hx with
  | 0, hx => exact .inl ⟨rfl, by cases hx; rfl, rfl⟩
  | 1, hx => exact .inr (.inl ⟨rfl, by cases hx; rfl, rfl⟩)
  | n + 2, hx => exact .inr (.inr hx)
theorem part_at {t : Ty} {l : List t.D} {h : Heap} {b : Nat} {x : Blk} (hx : (wPart t l h)[b]? = some x) :
    (b = 0 ∧ x = .box [.sl 1 (some (0, l.length))] ∧ (wHole t l h)[b]? = some (.box [.sl 1 none])) ∨ (b = 1 ∧ x = .row t l .moved ∧ (wHole t l h)[b]? = some (.row t l .own)) ∨ (wHole t l h)[b]? = some x := by
  match b, hx with
  | 0, hx => exact .inl ⟨rfl, by cases hx; rfl, rfl⟩
  | 1, hx => exact .inr (.inl ⟨rfl, by cases hx; rfl, rfl⟩)
  | n + 2, hx => exact .inr (.inr hx)
theorem part_len {t : Ty} {l : List t.D} {h : Heap} : (wPart t l h).length = (wHole t l h).length := rfl
theorem avs_part {A : Nat → Prop} {ρ : Rho} {t : Ty} {l : List t.D} {h : Heap} : avs A ρ (wHole t l h) = avs A ρ (wPart t l h) := by
  funext r
  refine propext ⟨fun ha => ?_, fun ha => ?_⟩
  · rcases ha with ha | ⟨b, blk, base, h1, h2, h3⟩
    · exact .inl ha
    · rcases whole_at h1 with ⟨_, _, e⟩ | ⟨_, _, e⟩ | e
      · exact .inr ⟨b, _, base, e, rfl, h3⟩
      · exact .inr ⟨b, _, base, e, rfl, h3⟩
      · exact .inr ⟨b, _, base, e, h2, h3⟩
  · rcases ha with ha | ⟨b, blk, base, h1, h2, h3⟩
    · exact .inl ha
    · rcases part_at h1 with ⟨_, _, e⟩ | ⟨_, _, e⟩ | e
      · exact .inr ⟨b, _, base, e, rfl, h3⟩
      · exact .inr ⟨b, _, base, e, rfl, h3⟩
      · exact .inr ⟨b, _, base, e, h2, h3⟩
theorem relC_part {w : World} {av : Nat → Prop} {ρ : Rho} {t : Ty} {l : List t.D} {h : Heap} {c : Cell} {v : Value} (hc : RelC w av ρ (wHole t l h) c v) : RelC w av ρ (wPart t l h) c v := by
  cases c with
  | undef => exact hc
  | bool b => exact hc
  | int k n => exact hc
  | nil => exact hc
  | ro t l => exact hc
  | sl b wn =>
    obtain ⟨t', l', s, o, n, ad, cp, h1, h2⟩ := hc
    rcases whole_at h1 with ⟨_, e, _⟩ | ⟨_, e, e'⟩ | e
    · cases e
    · cases e; exact ⟨t, l, .moved, o, n, ad, cp, e', h2⟩
    · exact ⟨t', l', s, o, n, ad, cp, e, h2⟩
  | ptr b i o =>
    obtain ⟨blk, r, base, h1, h2, h3⟩ := hc
    rcases whole_at h1 with ⟨_, e, e'⟩ | ⟨_, e, e'⟩ | e
    · subst e; exact ⟨_, r, base, e', h2, h3⟩
    · subst e; exact ⟨_, r, base, e', h2, h3⟩
    · exact ⟨blk, r, base, e, h2, h3⟩
  | rp t x o => exact hc
  | fn f caps =>
    obtain ⟨arr, e, ha⟩ := hc
    refine ⟨arr, e, ?_⟩
    generalize arr.toList = us at ha
    clear e
    induction ha with
    | nil => exact .nil
    | cons hd tl ih =>
      refine .cons ?_ ih
      obtain ⟨blk, r, base, h1, h2, h3⟩ := hd
      rcases whole_at h1 with ⟨_, e, e'⟩ | ⟨_, e, e'⟩ | e
      · exact ⟨_, r, base, e', h2, h3⟩
      · exact ⟨_, r, base, e', h2, h3⟩
      · exact ⟨blk, r, base, e, h2, h3⟩
theorem All2.imp {α β : Type} {R S : α → β → Prop} (H : ∀ a b, R a b → S a b) : ∀ {as : List α} {bs : List β}, All2 R as bs → All2 S as bs
  | _, _, .nil => .nil
  | _, _, .cons h t => .cons (H _ _ h) (t.imp H)
theorem relW_part {w : World} {av : Nat → Prop} {ρ : Rho} {t : Ty} {l : List t.D} {h : Heap} {x : W} {v : Value} (hx : RelW w av ρ (wHole t l h) x v) : RelW w av ρ (wPart t l h) x v := by
  cases x with
  | one c => exact relC_part hx
  | agg cs =>
    obtain ⟨arr, e, ha⟩ := hx
    exact ⟨arr, e, ha.imp fun _ _ => relC_part⟩
theorem relB_part {w : World} {av : Nat → Prop} {ρ : Rho} {t : Ty} {l : List t.D} {h : Heap} {b : Nat} {x : Blk} (hx : RelB w av ρ (wHole t l h) b x) : RelB w av ρ (wPart t l h) b x := by
  cases x with
  | row t' l' s => exact hx
  | box cs =>
    obtain ⟨r, vs, e, h1, h2, h3⟩ := hx
    exact ⟨r, vs, e, h1, h2, h3.imp fun _ _ => relC_part⟩
theorem SC.seen {P : Program} {f : Nat} {args : List W} {lent : Heap} {x : W} {t : Ty} {l : List t.D} {h : Heap} (hS : SC P f args lent [x] (.box [.sl 1 none] :: .row t l .own :: h)) :
    SC P f args lent [x] (.box [.sl 1 (some (0, l.length))] :: .row t l .moved :: h) := by
  intro w vs ρ A hH hA
  refine (hS w vs ρ A hH hA).mono fun e w' ⟨v, ρ', he, hH', hr, hfr, hlen, k1, k2, k3, k4⟩ => ?_
  have hav : avs A ρ' (wHole t l h) = avs A ρ' (wPart t l h) := avs_part
  have hH' : RelH A ρ' (wHole t l h) w' := hH'
  have hr : RelW w' (avs A ρ' (wHole t l h)) ρ' (wHole t l h) x v := hr
  have k1 : ∀ b y, (wHole t l h)[b]? = some y → b < lent.length → isMoved y = false → ρ' b = ρ b := k1
  have k4 : ∀ (b : Nat) (y : Blk), lent[b]? = some y → ∃ y', (wHole t l h)[b]? = some y' ∧ (isFrz y = true → isFrz y' = true) ∧ (isMoved y' = false → SameShape y y') := k4
  refine ⟨v, ρ', he, ⟨hH'.inj, fun b y hy => ?_, hH'.out, hH'.A⟩, ?_, hfr, hlen, fun b y hy hb hm => ?_, k2, k3, fun b y hy => ?_⟩
  · show RelB w' (avs A ρ' (wPart t l h)) ρ' (wPart t l h) b y
    rw [← hav]
    rcases part_at hy with ⟨rfl, rfl, e'⟩ | ⟨rfl, rfl, e'⟩ | e'
    · obtain ⟨r, cs, ty, h1, h2, h3⟩ := hH'.blk 0 _ e'
      refine ⟨r, cs, ty, h1, h2, ?_⟩
      generalize cs.toList = us at h3
      cases h3 with
      | cons a1 ha => cases ha with
        | nil =>
          refine .cons ?_ .nil
          obtain ⟨t', l', s, o, n, ad, cp, g1, g2, g3⟩ := relC_part a1
          cases g1
          exact ⟨t, l, .moved, o, n, ad, cp, rfl, g2, g3⟩
    · exact relB_part (x := .row t l .moved) (by
        obtain ⟨q1, q2, q3⟩ := hH'.blk 1 _ e'
        exact ⟨q1, q2, fun h => by cases h⟩)
    · exact relB_part (hH'.blk b y e')
  · show RelW w' (avs A ρ' (wPart t l h)) ρ' (wPart t l h) x v
    rw [← hav]
    exact relW_part hr
  · rcases part_at hy with ⟨rfl, rfl, e'⟩ | ⟨rfl, rfl, e'⟩ | e'
    · exact k1 0 _ e' hb rfl
    · cases hm
    · exact k1 b y e' hb hm
  · obtain ⟨y', h1, h2, h3⟩ := k4 b y hy
    show ∃ y', (wPart t l h)[b]? = some y' ∧ _
    rcases whole_at h1 with ⟨rfl, rfl, e'⟩ | ⟨rfl, rfl, e'⟩ | e'
    · exact ⟨_, e', h2, fun _ => by have := h3 rfl; cases y <;> exact this⟩
    · exact ⟨_, e', h2, fun h => by cases h⟩
    · exact ⟨_, e', h2, h3⟩

/-! ## A variable that holds slices of its own is told another way -/
def cellIn (S : Nat → Bool) : Cell → Bool
  | .sl b _ => S b
  | .ptr b _ _ => S b
  | .fn _ caps => caps.all S
  | _ => true
def blkIn (S : Nat → Bool) : Blk → Bool
  | .row _ _ _ => true
  | .box cs => cs.all (cellIn S)
structure SameB (x x2 : Blk) : Prop where
  row : ∀ t l s, x = .row t l s → ∃ s2, x2 = .row t l s2
  stride : blkStride x2 = blkStride x
theorem SameB.rfl' {x : Blk} : SameB x x := ⟨fun t l s e => ⟨s, e⟩, rfl⟩
theorem avs_sub {A : Nat → Prop} {ρ ρ2 : Rho} {h h2 : Heap} (H : ∀ b2 x2 r base, h2[b2]? = some x2 → isFrz x2 = false → ρ2 b2 = some (r, base) → ∃ b x, h[b]? = some x ∧ isFrz x = false ∧ ρ b = some (r, base)) {r : Nat} (ha : avs A ρ2 h2 r) : avs A ρ h r := by
  rcases ha with ha | ⟨b, x, base, h1, h2', h3⟩
  · exact .inl ha
  · obtain ⟨c, y, g1, g2, g3⟩ := H b x r base h1 h2' h3
    exact .inr ⟨c, y, base, g1, g2, g3⟩
theorem relC_move {w : World} {av av2 : Nat → Prop} {ρ ρ2 : Rho} {h h2 : Heap} (hav : ∀ r, av2 r → av r) {S : Nat → Bool} (hS : ∀ b x, S b = true → h[b]? = some x → (∃ x2, h2[b]? = some x2 ∧ SameB x x2) ∧ ρ2 b = ρ b) {c : Cell} {v : Value} (hc : cellIn S c = true) (H : RelC w av ρ h c v) : RelC w av2 ρ2 h2 c v := by
  cases c with
  | undef => exact H
  | bool b => exact H
  | int k n => exact H
  | nil => exact H
  | ro t l => exact RD.mono (fun r _ hr => hav r hr) (fun _ _ _ _ h => h) _ _ _ H
  | sl b wn =>
    obtain ⟨t, l, s, o, n, ad, cp, h1, h2', h3, h4, h5, h6⟩ := H
    obtain ⟨⟨x2, g1, g2⟩, g3⟩ := hS b _ hc h1
    obtain ⟨s2, rfl⟩ := g2.row t l s rfl
    refine ⟨t, l, s2, o, n, ad, cp, g1, h2', h3, h4, h5, ?_⟩
    rw [g3]; exact h6
  | ptr b i o =>
    obtain ⟨blk, r, base, h1, h2', h3⟩ := H
    obtain ⟨⟨x2, g1, g2⟩, g3⟩ := hS b _ hc h1
    exact ⟨x2, r, base, g1, by rw [g3]; exact h2', by rw [g2.stride]; exact h3⟩
  | rp t x o =>
    obtain ⟨r, p, cs, h1, h2', h3, h4⟩ := H
    exact ⟨r, p, cs, fun hr => h1 (hav _ hr), RD.mono (fun r _ hr => hav r hr) (fun _ _ _ _ h => h) _ _ _ h2', h3, h4⟩
  | fn f caps =>
    obtain ⟨arr, e, ha⟩ := H
    refine ⟨arr, e, ?_⟩
    replace hc : caps.all S = true := hc
    generalize arr.toList = us at ha
    clear e
    induction ha with
    | nil => exact .nil
    | cons hd tl ih =>
      rw [List.all_cons, Bool.and_eq_true] at hc
      refine .cons ?_ (ih hc.2)
      obtain ⟨blk, r, base, h1, h2', h3⟩ := hd
      obtain ⟨⟨x2, g1, _⟩, g3⟩ := hS _ _ hc.1 h1
      exact ⟨x2, r, base, g1, by rw [g3]; exact h2', h3⟩
theorem all2_move {w : World} {av av2 : Nat → Prop} {ρ ρ2 : Rho} {h h2 : Heap} (hav : ∀ r, av2 r → av r) {S : Nat → Bool} (hS : ∀ b x, S b = true → h[b]? = some x → (∃ x2, h2[b]? = some x2 ∧ SameB x x2) ∧ ρ2 b = ρ b) : ∀ {cs : List Cell} {vs : List Value}, cs.all (cellIn S) = true → All2 (RelC w av ρ h) cs vs → All2 (RelC w av2 ρ2 h2) cs vs
  | _, _, _, .nil => .nil
  | _, _, hc, .cons a b => by
    rw [List.all_cons, Bool.and_eq_true] at hc
    exact .cons (relC_move hav hS hc.1 a) (all2_move hav hS hc.2 b)
def wIn (S : Nat → Bool) : W → Bool
  | .one c => cellIn S c
  | .agg cs => cs.all (cellIn S)
theorem relW_move {w : World} {av av2 : Nat → Prop} {ρ ρ2 : Rho} {h h2 : Heap} (hav : ∀ r, av2 r → av r) {S : Nat → Bool} (hS : ∀ b x, S b = true → h[b]? = some x → (∃ x2, h2[b]? = some x2 ∧ SameB x x2) ∧ ρ2 b = ρ b) {x : W} {v : Value} (hx : wIn S x = true) (H : RelW w av ρ h x v) : RelW w av2 ρ2 h2 x v := by
  cases x with
  | one c => exact relC_move hav hS hx H
  | agg cs =>
    obtain ⟨arr, e, ha⟩ := H
    exact ⟨arr, e, all2_move hav hS hx ha⟩
theorem relB_move {w : World} {av av2 : Nat → Prop} {ρ ρ2 : Rho} {h h2 : Heap} (hav : ∀ r, av2 r → av r) {S : Nat → Bool} (hS : ∀ b x, S b = true → h[b]? = some x → (∃ x2, h2[b]? = some x2 ∧ SameB x x2) ∧ ρ2 b = ρ b) {b : Nat} {x : Blk} (hb : ρ2 b = ρ b) (hx : blkIn S x = true) (H : RelB w av ρ h b x) : RelB w av2 ρ2 h2 b x := by
  cases x with
  | row t l s =>
    obtain ⟨q1, q2, q3⟩ := H
    refine ⟨fun r base e => ?_, fun e => by rw [hb]; exact q2 e, fun e => by rw [hb]; exact q3 e⟩
    rw [hb] at e
    obtain ⟨cs, ty, g1, g2⟩ := q1 r base e
    refine ⟨cs, ty, g1, fun i x hi => ?_⟩
    obtain ⟨vs, g3, g4⟩ := g2 i x hi
    exact ⟨vs, RD.mono (fun r _ hr => hav r hr) (fun _ _ _ _ h => h) _ _ _ g3, g4⟩
  | box cs =>
    obtain ⟨r, vs, e, h1, h2', h3⟩ := H
    exact ⟨r, vs, e, by rw [hb]; exact h1, h2', all2_move hav hS hx h3⟩
/-- garbage behind -/
theorem SC.more {P : Program} {f : Nat} {args : List W} {lent h : Heap} {x : W} {t : Ty} (hx : wIn (fun b => Nat.blt b h.length) x = true) (hin : h.all (blkIn fun b => Nat.blt b h.length) = true) (hS : SC P f args lent [x] h) : SC P f args lent [x] (h ++ [.row t [] .own]) := by
  intro w vs ρ A hH hA
  refine (hS w vs ρ A hH hA).mono fun e w' ⟨v, ρ', he, hH', hr, hfr, hlen, k1, k2, k3, k4⟩ => ?_
  have get : ∀ b, b < h.length → (h ++ [.row t [] .own])[b]? = h[b]? := fun b hb => List.getElem?_append_left hb
  have hρ : ∀ b, b < h.length → (if b = h.length then none else ρ' b) = ρ' b := fun b hb => if_neg (by omega)
  have back : ∀ b y, (h ++ [.row t [] .own])[b]? = some y → (b < h.length ∧ h[b]? = some y) ∨ (b = h.length ∧ y = .row t [] .own) := by
    intro b y hy
    by_cases hb : b < h.length
    · rw [get b hb] at hy; exact .inl ⟨hb, hy⟩
    · rw [List.getElem?_append_right (by omega)] at hy
      have h0 : b - h.length = 0 := by
        have := lt_of_get hy
        simp at this; omega
      rw [h0] at hy
      cases hy
      exact .inr ⟨by omega, rfl⟩
  have hav : ∀ r, avs A (fun b => if b = h.length then none else ρ' b) (h ++ [.row t [] .own]) r → avs A ρ' h r := fun r => avs_sub fun b2 x2 r base g1 g2 g3 => by
    rcases back b2 x2 g1 with ⟨a1, a2⟩ | ⟨a1, a2⟩
    · replace g3 : (if b2 = h.length then none else ρ' b2) = some (r, base) := g3
      rw [hρ b2 a1] at g3; exact ⟨b2, x2, a2, g2, g3⟩
    · replace g3 : (if b2 = h.length then none else ρ' b2) = some (r, base) := g3
      rw [if_pos a1] at g3; cases g3
  have hSS : ∀ b x, Nat.blt b h.length = true → h[b]? = some x → (∃ x2, (h ++ [.row t [] .own])[b]? = some x2 ∧ SameB x x2) ∧ (if b = h.length then none else ρ' b) = ρ' b := fun b x _ hb => ⟨⟨x, by rw [get b (lt_of_get hb)]; exact hb, SameB.rfl'⟩, hρ b (lt_of_get hb)⟩
  have hl : (h ++ [Blk.row t [] .own]).length = h.length + 1 := by simp
  refine ⟨v, fun b => if b = h.length then none else ρ' b, he, ⟨fun b b' r base base' hb hb' e1 e2 => ?_, fun b y hy => ?_, fun b r base hb e1 => ?_, hH'.A⟩, relW_move hav hSS hx hr, hfr, by rw [hl]; omega, fun b y hy hb hm => ?_, fun b r base hb e1 => ?_, fun b r base h0 hb e1 => ?_, fun b y hy => ?_⟩
  · replace e1 : (if b = h.length then none else ρ' b) = some (r, base) := e1
    replace e2 : (if b' = h.length then none else ρ' b') = some (r, base') := e2
    rw [hl] at hb hb'
    by_cases c1 : b = h.length
    · rw [if_pos c1] at e1; cases e1
    by_cases c2 : b' = h.length
    · rw [if_pos c2] at e2; cases e2
    rw [if_neg c1] at e1; rw [if_neg c2] at e2
    exact hH'.inj b b' r base base' (by omega) (by omega) e1 e2
  · rcases back b y hy with ⟨a1, a2⟩ | ⟨a1, rfl⟩
    · exact relB_move hav hSS (hρ b a1) (List.all_eq_true.1 hin y (List.mem_of_getElem? a2)) (hH'.blk b y a2)
    · have q1 : ∀ r base, (if b = h.length then none else ρ' b) = some (r, base) → False := fun r base e1 => by rw [if_pos a1] at e1; cases e1
      exact ⟨fun r base e1 => (q1 r base e1).elim, fun h => absurd rfl h, fun h => by cases h⟩
  · replace e1 : (if b = h.length then none else ρ' b) = some (r, base) := e1
    rw [hl] at hb
    by_cases c1 : b = h.length
    · rw [if_pos c1] at e1; cases e1
    rw [if_neg c1] at e1
    exact hH'.out b r base (by omega) e1
  · show (if b = h.length then none else ρ' b) = ρ b
    rw [hρ b (by omega)]
    rw [get b (by omega)] at hy
    exact k1 b y hy hb hm
  · replace e1 : (if b = h.length then none else ρ' b) = some (r, base) := e1
    rw [hρ b (by omega)] at e1
    exact k2 b r base hb e1
  · replace e1 : (if b = h.length then none else ρ' b) = some (r, base) := e1
    rw [hl] at hb
    by_cases c1 : b = h.length
    · rw [if_pos c1] at e1; cases e1
    rw [if_neg c1] at e1
    exact k3 b r base h0 (by omega) e1
  · obtain ⟨y', g1, g2⟩ := k4 b y hy
    exact ⟨y', by rw [get b (lt_of_get g1)]; exact g1, g2⟩

/-- a row may have moved -/
theorem SC.movedRow {P : Program} {f : Nat} {args : List W} {lent h : Heap} {x : W} (k : Nat) {t : Ty} {l : List t.D} (hk : h[k]? = some (.row t l .own)) (hS : SC P f args lent [x] h) : SC P f args lent [x] (h.set k (.row t l .moved)) := by
  intro w vs ρ A hH hA
  refine (hS w vs ρ A hH hA).mono fun e w' ⟨v, ρ', he, hH', hr, hfr, hlen, k1, k2, k3, k4⟩ => ?_
  have hkl := lt_of_get hk
  have gk : (h.set k (.row t l .moved))[k]? = some (.row t l .moved) := List.getElem?_set_self hkl
  have gn : ∀ b, b ≠ k → (h.set k (.row t l .moved))[b]? = h[b]? := fun b hb => List.getElem?_set_ne fun e => hb e.symm
  have hav : ∀ r, avs A ρ' (h.set k (.row t l .moved)) r → avs A ρ' h r := fun r => avs_sub fun b2 x2 r base g1 g2 g3 => by
    by_cases c : b2 = k
    · subst c; exact ⟨b2, _, hk, rfl, g3⟩
    · rw [gn b2 c] at g1; exact ⟨b2, x2, g1, g2, g3⟩
  have hSS : ∀ b x, (fun _ => true) b = true → h[b]? = some x → (∃ x2, (h.set k (.row t l .moved))[b]? = some x2 ∧ SameB x x2) ∧ ρ' b = ρ' b := fun b x _ hb => by
    refine ⟨?_, rfl⟩
    by_cases c : b = k
    · subst c
      rw [hk] at hb; cases hb
      exact ⟨_, gk, fun t' l' s' e => by cases e; exact ⟨_, rfl⟩, rfl⟩
    · exact ⟨x, by rw [gn b c]; exact hb, SameB.rfl'⟩
  have allT : ∀ c : Cell, cellIn (fun _ => true) c = true := fun c => by cases c <;> simp [cellIn]
  have allB : ∀ y : Blk, blkIn (fun _ => true) y = true := fun y => by cases y <;> simp [blkIn, allT]
  have allW : wIn (fun _ => true) x = true := by cases x <;> simp [wIn, allT]
  have hl : (h.set k (.row t l .moved)).length = h.length := List.length_set
  refine ⟨v, ρ', he, ⟨fun b b' r base base' hb hb' e1 e2 => hH'.inj b b' r base base' (by omega) (by omega) e1 e2, fun b y hy => ?_, fun b r base hb e1 => hH'.out b r base (by omega) e1, hH'.A⟩, relW_move hav hSS allW hr, hfr, by rw [hl]; exact hlen, fun b y hy hb hm => ?_, k2, fun b r base h0 hb e1 => k3 b r base h0 (by omega) e1, fun b y hy => ?_⟩
  · by_cases c : b = k
    · subst c
      rw [gk] at hy; cases hy
      obtain ⟨q1, q2, q3⟩ := relB_move hav hSS (b := b) rfl (allB _) (hH'.blk b _ hk)
      exact ⟨q1, q2, fun h => by cases h⟩
    · rw [gn b c] at hy
      exact relB_move hav hSS rfl (allB y) (hH'.blk b y hy)
  · by_cases c : b = k
    · subst c
      rw [gk] at hy; cases hy; cases hm
    · rw [gn b c] at hy
      exact k1 b y hy hb hm
  · obtain ⟨y', g1, g2, g3⟩ := k4 b y hy
    by_cases c : b = k
    · subst c
      rw [hk] at g1; cases g1
      exact ⟨_, gk, g2, fun h => by cases h⟩
    · exact ⟨y', by rw [gn b c]; exact g1, g2, g3⟩
theorem All2.set {α β : Type} {R : α → β → Prop} {x : α} : ∀ {as : List α} {bs : List β} {j : Nat}, (∀ b, bs[j]? = some b → R x b) → All2 R as bs → All2 R (as.set j x) bs
  | [], _, _, _, .nil => .nil
  | _ :: _, _, 0, h, .cons _ b => .cons (h _ rfl) b
  | _ :: _, _, j + 1, h, .cons a b => .cons a (b.set (j := j) h)
theorem All2.at {α β : Type} {R : α → β → Prop} : ∀ {as : List α} {bs : List β} {j : Nat} {a : α} {b : β}, All2 R as bs → as[j]? = some a → bs[j]? = some b → R a b
  | _, _, 0, _, _, .cons h _, ha, hb => by cases ha; cases hb; exact h
  | _, _, j + 1, _, _, .cons _ t, ha, hb => t.at (j := j) ha hb
theorem nil_empty {w : World} {av : Nat → Prop} {ρ : Rho} {h : Heap} {t : Ty} {s : RS} {n : Nat} (hn : h[n]? = some (.row t [] s)) : RelC w av ρ h (.sl n none) (.slice none 0 0) :=
  ⟨t, [], s, 0, 0, none, 0, hn, rfl, Nat.le_refl _, rfl, Nat.le_refl _, .inl rfl⟩
/-- a nil slice in a variable is an empty row -/
theorem SC.nilRow {P : Program} {f : Nat} {args : List W} {lent h : Heap} {x : W} {t : Ty} (k j : Nat) {cs : List Cell} (hk : h[k]? = some (.box cs)) (hj : cs[j]? = some .nil) (hx : wIn (fun b => Nat.blt b h.length) x = true) (hin : h.all (blkIn fun b => Nat.blt b h.length) = true) (hS : SC P f args lent [x] h) :
    SC P f args lent [x] ((h.set k (.box (cs.set j (.sl h.length none)))) ++ [.row t [] .own]) := by
  have hM := SC.more (t := t) hx hin hS
  intro w vs ρ A hH hA
  refine (hM w vs ρ A hH hA).mono fun e w' ⟨v, ρ', he, hH', hr, hfr, hlen, k1, k2, k3, k4⟩ => ?_
  have hkl := lt_of_get hk
  have hk' : (h ++ [Blk.row t [] .own])[k]? = some (.box cs) := by rw [List.getElem?_append_left hkl]; exact hk
  have hl1 : (h ++ [Blk.row t [] .own]).length = h.length + 1 := by simp
  have hset : (h.set k (.box (cs.set j (.sl h.length none)))) ++ [Blk.row t [] .own] = (h ++ [Blk.row t [] .own]).set k (.box (cs.set j (.sl h.length none))) := by rw [List.set_append_left _ _ hkl]
  have hnew : (h ++ [Blk.row t [] .own])[h.length]? = some (.row t [] .own) := by rw [List.getElem?_append_right (Nat.le_refl _), Nat.sub_self]; rfl
  rw [hset]
  generalize h ++ [Blk.row t [] .own] = g at *
  have gk : (g.set k (.box (cs.set j (.sl h.length none))))[k]? = some (.box (cs.set j (.sl h.length none))) := List.getElem?_set_self (by omega)
  have gn : ∀ b, b ≠ k → (g.set k (.box (cs.set j (.sl h.length none))))[b]? = g[b]? := fun b hb => List.getElem?_set_ne fun e => hb e.symm
  have hav : ∀ r, avs A ρ' (g.set k (.box (cs.set j (.sl h.length none)))) r → avs A ρ' g r := fun r => avs_sub fun b2 x2 r base g1 g2 g3 => by
    by_cases c : b2 = k
    · subst c; exact ⟨b2, _, hk', rfl, g3⟩
    · rw [gn b2 c] at g1; exact ⟨b2, x2, g1, g2, g3⟩
  have hSS : ∀ b x, (fun _ => true) b = true → g[b]? = some x → (∃ x2, (g.set k (.box (cs.set j (.sl h.length none))))[b]? = some x2 ∧ SameB x x2) ∧ ρ' b = ρ' b := fun b x _ hb => by
    refine ⟨?_, rfl⟩
    by_cases c : b = k
    · subst c
      rw [hk'] at hb; cases hb
      exact ⟨_, gk, (fun t' l' s' e => by cases e), rfl⟩
    · exact ⟨x, by rw [gn b c]; exact hb, SameB.rfl'⟩
  have allT : ∀ c : Cell, cellIn (fun _ => true) c = true := fun c => by cases c <;> simp [cellIn]
  have allB : ∀ y : Blk, blkIn (fun _ => true) y = true := fun y => by cases y <;> simp [blkIn, allT]
  have allW : wIn (fun _ => true) x = true := by cases x <;> simp [wIn, allT]
  have hl : (g.set k (.box (cs.set j (.sl h.length none)))).length = g.length := List.length_set
  refine ⟨v, ρ', he, ⟨fun b b' r base base' hb hb' e1 e2 => hH'.inj b b' r base base' (by omega) (by omega) e1 e2, fun b y hy => ?_, fun b r base hb e1 => hH'.out b r base (by omega) e1, hH'.A⟩, relW_move hav hSS allW hr, hfr, by rw [hl]; exact hlen, fun b y hy hb hm => ?_, k2, fun b r base h0 hb e1 => k3 b r base h0 (by omega) e1, fun b y hy => ?_⟩
  · by_cases c : b = k
    · subst c
      rw [gk] at hy; cases hy
      obtain ⟨r, us, e2, q1, q2, q3⟩ := hH'.blk b _ hk'
      have q4 := all2_move hav hSS (cs := cs) (List.all_eq_true.2 fun c _ => allT c) q3
      refine ⟨r, us, e2, q1, q2, q4.set fun u hu => ?_⟩
      have := q3.at hj hu
      rw [show u = .slice none 0 0 from this]
      exact nil_empty (by rw [gn _ (by omega)]; exact hnew)
    · rw [gn b c] at hy
      exact relB_move hav hSS rfl (allB y) (hH'.blk b y hy)
  · by_cases c : b = k
    · subst c
      rw [gk] at hy
      exact k1 b _ hk' hb rfl
    · rw [gn b c] at hy
      exact k1 b y hy hb hm
  · obtain ⟨y', g1, g2, g3⟩ := k4 b y hy
    by_cases c : b = k
    · subst c
      rw [hk'] at g1; cases g1
      exact ⟨_, gk, g2, fun h => by have := g3 rfl; cases y <;> exact this⟩
    · exact ⟨y', by rw [gn b c]; exact g1, g2, g3⟩

theorem all2_if {α β : Type} {R R' : α → β → Prop} {p : α → Bool} (hp : ∀ a b, p a = true → R a b → R' a b) : ∀ {as : List α} {bs : List β}, as.all p = true → All2 R as bs → All2 R' as bs
  | _, _, _, .nil => .nil
  | _, _, h, .cons a b => by
    rw [List.all_cons, Bool.and_eq_true] at h
    exact .cons (hp _ _ h.1 a) (all2_if hp h.2 b)
theorem all2_swap {α β : Type} {R R' : α → β → Prop} {p : α → Bool} {x y z : α} (hp : ∀ a b, p a = true → R a b → R' a b) (hx : ∀ b, R y b → R' x b) : ∀ {as : List α} {bs : List β} {j : Nat}, as[j]? = some y → (as.set j z).all p = true → All2 R as bs → All2 R' (as.set j x) bs
  | _, _, 0, e, h, .cons a b => by
    cases e
    rw [List.set_cons_zero, List.all_cons, Bool.and_eq_true] at h
    exact .cons (hx _ a) (all2_if hp h.2 b)
  | _, _, j + 1, e, h, .cons a b => by
    rw [List.set_cons_succ, List.all_cons, Bool.and_eq_true] at h
    exact .cons (hp _ _ h.1 a) (all2_swap hp hx (j := j) e h.2 b)
/-- a variable's slice that is new takes the place of the one it had -/
theorem SC.swapRow {P : Program} {f : Nat} {args : List W} {lent h : Heap} {x : W} (k j b n : Nat) {cs : List Cell} {t t' : Ty} {l : List t.D} {l' : List t'.D} (hk : h[k]? = some (.box cs)) (hj : cs[j]? = some (.sl n none)) (hn : h[n]? = some (.row t l .own)) (hb : h[b]? = some (.row t' l' .own)) (hbl : b < lent.length) (hnl : lent.length ≤ n)
    (hx : wIn (fun c => !(Nat.beq c b || Nat.beq c n)) x = true) (hin : (h.set k (.box (cs.set j .nil))).all (blkIn fun c => !(Nat.beq c b || Nat.beq c n)) = true) (hS : SC P f args lent [x] h) :
    SC P f args lent [x] (((h.set k (.box (cs.set j (.sl b none)))).set b (.row t l .moved)).set n (.row t [] .own)) := by
  intro w vs ρ A hH hA
  refine (hS w vs ρ A hH hA).mono fun e w' ⟨v, ρ', he, hH', hr, hfr, hlen, k1, k2, k3, k4⟩ => ?_
  have hbn : b ≠ n := by omega
  have hkb : k ≠ b := fun e => by subst e; rw [hk] at hb; cases hb
  have hkn : k ≠ n := fun e => by subst e; rw [hk] at hn; cases hn
  have lk := lt_of_get hk
  have ln := lt_of_get hn
  have lb := lt_of_get hb
  have hl : (((h.set k (.box (cs.set j (.sl b none)))).set b (.row t l .moved)).set n (.row t [] .own)).length = h.length := by rw [List.length_set, List.length_set, List.length_set]
  have gN : (((h.set k (.box (cs.set j (.sl b none)))).set b (.row t l .moved)).set n (.row t [] .own))[n]? = some (.row t [] .own) := List.getElem?_set_self (by rw [List.length_set, List.length_set]; exact ln)
  have gB : (((h.set k (.box (cs.set j (.sl b none)))).set b (.row t l .moved)).set n (.row t [] .own))[b]? = some (.row t l .moved) := by
    rw [List.getElem?_set_ne (fun e => hbn e.symm)]
    exact List.getElem?_set_self (by rw [List.length_set]; exact lb)
  have gK : (((h.set k (.box (cs.set j (.sl b none)))).set b (.row t l .moved)).set n (.row t [] .own))[k]? = some (.box (cs.set j (.sl b none))) := by
    rw [List.getElem?_set_ne (fun e => hkn e.symm), List.getElem?_set_ne (fun e => hkb e.symm)]
    exact List.getElem?_set_self lk
  have gO : ∀ c, c ≠ k → c ≠ b → c ≠ n → (((h.set k (.box (cs.set j (.sl b none)))).set b (.row t l .moved)).set n (.row t [] .own))[c]? = h[c]? := fun c c1 c2 c3 => by
    rw [List.getElem?_set_ne (fun e => c3 e.symm), List.getElem?_set_ne (fun e => c2 e.symm), List.getElem?_set_ne (fun e => c1 e.symm)]
  have inAt : ∀ c y, c ≠ k → h[c]? = some y → blkIn (fun c => !(Nat.beq c b || Nat.beq c n)) y = true := fun c y c1 hy => List.all_eq_true.1 hin y (List.mem_of_getElem? (i := c) (by rw [List.getElem?_set_ne (fun e => c1 e.symm)]; exact hy))
  have inK : (cs.set j .nil).all (cellIn fun c => !(Nat.beq c b || Nat.beq c n)) = true := List.all_eq_true.1 hin _ (List.mem_of_getElem? (i := k) (List.getElem?_set_self lk))
  generalize ((h.set k (.box (cs.set j (.sl b none)))).set b (.row t l .moved)).set n (.row t [] .own) = g at *
  obtain ⟨ρ2, r1, r2, r3⟩ : ∃ ρ2 : Rho, ρ2 b = ρ' n ∧ ρ2 n = none ∧ ∀ c, c ≠ b → c ≠ n → ρ2 c = ρ' c := ⟨fun c => if c = b then ρ' n else if c = n then none else ρ' c, if_pos rfl, by show (if n = b then ρ' n else if n = n then none else ρ' n) = none; rw [if_neg (fun e => hbn e.symm), if_pos rfl], fun c c1 c2 => by show (if c = b then ρ' n else if c = n then none else ρ' c) = ρ' c; rw [if_neg c1, if_neg c2]⟩
  have Sne : ∀ c, (!(Nat.beq c b || Nat.beq c n)) = true → c ≠ b ∧ c ≠ n := fun c hc => by
    rw [Bool.not_eq_true', Bool.or_eq_false_iff] at hc
    exact ⟨(fun e => by rw [e, Nat.beq_refl] at hc; cases hc.1), (fun e => by rw [e, Nat.beq_refl] at hc; cases hc.2)⟩
  have hav : ∀ r, avs A ρ2 g r → avs A ρ' h r := fun r => avs_sub fun c y r base g1 g2 g3 => by
    by_cases c1 : c = b
    · subst c1; rw [r1] at g3; exact ⟨n, _, hn, rfl, g3⟩
    by_cases c2 : c = n
    · subst c2; rw [r2] at g3; cases g3
    rw [r3 c c1 c2] at g3
    by_cases c3 : c = k
    · subst c3; exact ⟨c, _, hk, rfl, g3⟩
    · rw [gO c c3 c1 c2] at g1; exact ⟨c, y, g1, g2, g3⟩
  have hSS : ∀ c y, (!(Nat.beq c b || Nat.beq c n)) = true → h[c]? = some y → (∃ y2, g[c]? = some y2 ∧ SameB y y2) ∧ ρ2 c = ρ' c := fun c y hc hy => by
    obtain ⟨c1, c2⟩ := Sne c hc
    refine ⟨?_, r3 c c1 c2⟩
    by_cases c3 : c = k
    · subst c3
      rw [hk] at hy; cases hy
      exact ⟨_, gK, (fun t' l' s' e => by cases e), rfl⟩
    · exact ⟨y, by rw [gO c c3 c1 c2]; exact hy, SameB.rfl'⟩
  refine ⟨v, ρ2, he, ⟨fun c c' r base base' hc hc' e1 e2 => ?_, fun c y hy => ?_, fun c r base hc e1 => ?_, hH'.A⟩, relW_move hav (S := fun c => !(Nat.beq c b || Nat.beq c n)) hSS hx hr, hfr, by omega, fun c y hy hc hm => ?_, fun c r base hc e1 => ?_, fun c r base h0 hc e1 => ?_, fun c y hy => ?_⟩
  · have go : ∀ c r base, c < g.length → ρ2 c = some (r, base) → ∃ d, d < h.length ∧ ρ' d = some (r, base) ∧ (d = n → c = b) ∧ (d ≠ n → c = d) := by
      intro c r base hc e
      by_cases c1 : c = b
      · exact ⟨n, ln, by rw [← r1, ← c1]; exact e, fun _ => c1, fun h => absurd rfl h⟩
      by_cases c2 : c = n
      · rw [c2, r2] at e; cases e
      · exact ⟨c, by omega, by rw [← r3 c c1 c2]; exact e, fun h => absurd h c2, fun _ => rfl⟩
    obtain ⟨d, d1, d2, d3, d4⟩ := go c r base hc e1
    obtain ⟨d', d1', d2', d3', d4'⟩ := go c' r base' hc' e2
    have := hH'.inj d d' r base base' d1 d1' d2 d2'
    subst this
    by_cases dn : d = n
    · rw [d3 dn, d3' dn]
    · rw [d4 dn, d4' dn]
  · by_cases c1 : c = b
    · subst c1
      rw [gB] at hy; cases hy
      obtain ⟨q1, q2, q3⟩ := hH'.blk n _ hn
      refine ⟨fun r base e1 => ?_, fun e1 => by rw [r1]; exact q2 e1, fun e1 => by cases e1⟩
      rw [r1] at e1
      obtain ⟨us, ty, g1, g2⟩ := q1 r base e1
      refine ⟨us, ty, g1, fun i y hi => ?_⟩
      obtain ⟨vs, g3, g4⟩ := g2 i y hi
      exact ⟨vs, RD.mono (fun r _ hr => hav r hr) (fun _ _ _ _ h => h) _ _ _ g3, g4⟩
    by_cases c2 : c = n
    · subst c2
      rw [gN] at hy; cases hy
      exact ⟨(fun r base e1 => by rw [r2] at e1; cases e1), (fun e1 => absurd rfl e1), (fun e1 => by cases e1)⟩
    by_cases c3 : c = k
    · subst c3
      rw [gK] at hy; cases hy
      obtain ⟨r, us, e2, q1, q2, q3⟩ := hH'.blk c _ hk
      refine ⟨r, us, e2, by rw [r3 c c1 c2]; exact q1, q2, all2_swap (R := RelC w' (avs A ρ' h) ρ' h) (R' := RelC w' (avs A ρ2 g) ρ2 g) (p := cellIn fun c => !(Nat.beq c b || Nat.beq c n)) (fun a u ha hr => relC_move hav (S := fun c => !(Nat.beq c b || Nat.beq c n)) hSS ha hr) (fun u hu => ?_) hj inK q3⟩
      obtain ⟨t1, l1, s1, o, m, ad, cp, g1, g2, g3, g4, g5, g6⟩ := hu
      rw [hn] at g1; cases g1
      refine ⟨t, l, .moved, o, m, ad, cp, gB, g2, g3, g4, g5, ?_⟩
      rw [r1]; exact g6
    · rw [gO c c3 c1 c2] at hy
      exact relB_move hav (S := fun c => !(Nat.beq c b || Nat.beq c n)) hSS (r3 c c1 c2) (inAt c y c3 hy) (hH'.blk c y hy)
  · by_cases c1 : c = b
    · rw [c1, r1] at e1; exact hH'.out n r base ln e1
    by_cases c2 : c = n
    · rw [c2, r2] at e1; cases e1
    · rw [r3 c c1 c2] at e1; exact hH'.out c r base (by omega) e1
  · have c2 : c ≠ n := by omega
    by_cases c1 : c = b
    · rw [c1, gB] at hy; cases hy; cases hm
    rw [r3 c c1 c2]
    by_cases c3 : c = k
    · subst c3; exact k1 c _ hk hc rfl
    · rw [gO c c3 c1 c2] at hy; exact k1 c y hy hc hm
  · have c2 : c ≠ n := by omega
    by_cases c1 : c = b
    · rw [c1, r1] at e1; exact .inr (k3 n r base hnl ln e1)
    · rw [r3 c c1 c2] at e1; exact k2 c r base hc e1
  · by_cases c2 : c = n
    · rw [c2, r2] at e1; cases e1
    · rw [r3 c (by omega) c2] at e1; exact k3 c r base h0 (by omega) e1
  · obtain ⟨y', g1, g2, g3⟩ := k4 c y hy
    have c2 : c ≠ n := by have := lt_of_get hy; omega
    by_cases c1 : c = b
    · subst c1
      rw [hb] at g1; cases g1
      exact ⟨_, gB, g2, fun h => by cases h⟩
    by_cases c3 : c = k
    · subst c3
      rw [hk] at g1; cases g1
      exact ⟨_, gK, g2, fun h => by have := g3 rfl; cases y <;> exact this⟩
    · exact ⟨y', by rw [gO c c3 c1 c2]; exact g1, g2, g3⟩

/-- a window of all is all -/
theorem SC.wholeAgg {P : Program} {f : Nat} {args : List W} {c0 c2 : Cell} {x2 : W} {t : Ty} {l : List t.D} {s : RS} {h : Heap} {n : Nat} (hn : n = l.length) (hS : SC P f args [] [.agg [c0, .sl 0 (some (0, n)), c2], x2] (.row t l s :: h)) : SC P f args [] [.agg [c0, .sl 0 none, c2], x2] (.row t l s :: h) := by
  intro w vs ρ A hH hA
  refine (hS w vs ρ A hH hA).mono fun e w' ⟨v, ρ', he, hH', hr, hfr, hlen, k1, k2, k3, k4⟩ => ?_
  refine ⟨v, ρ', he, hH', ?_, hfr, hlen, k1, k2, k3, k4⟩
  obtain ⟨arr, e1, ha⟩ := hr
  refine ⟨arr, e1, ?_⟩
  clear e1
  generalize arr.toList = ws at ha
  cases ha with
  | cons a b =>
    refine .cons ?_ b
    obtain ⟨ar, e2, hb⟩ := a
    refine ⟨ar, e2, ?_⟩
    generalize ar.toList = us at hb
    cases hb with
    | cons p q =>
      cases q with
      | cons p2 q2 =>
        refine .cons p (.cons ?_ q2)
        obtain ⟨t1, l1, s1, o, m, ad, cp, g1, g2, g3⟩ := p2
        cases g1
        subst hn
        exact ⟨t, l, s, o, m, ad, cp, rfl, g2, g3⟩

end Go.Proofs.Ytjoiadaogppmkaa.Sh
