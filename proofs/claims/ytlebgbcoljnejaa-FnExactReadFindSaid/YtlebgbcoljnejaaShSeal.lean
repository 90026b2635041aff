/- A new variable that holds slices of its own is told as data: 'SC.told2'. -/
import Derived.Test.YtlebgbcoljnejaaShCode
namespace Go.Proofs.Ytlebgbcoljnejaa.Sh
open Go
set_option linter.unusedVariables false
set_option linter.unusedSimpArgs false

theorem avs_seal {A : Nat → Prop} {ρ : Rho} {cs cs' : List Cell} {h : Heap} {r : Nat} (ha : avs A ρ [.box cs'] r) : avs A ρ (.box cs :: h) r := by
  rcases ha with ha | ⟨b, blk, base, h1, h2, h3⟩
  · exact .inl ha
  · match b, h1 with
    | 0, h1 => exact .inr ⟨0, .box cs, base, rfl, rfl, h3⟩
theorem sealed {A : Nat → Prop} {ρ : Rho} {w : World} {cs cs' : List Cell} {h : Heap} (hH : RelH A ρ (.box cs :: h) w) {b : Nat} {t : Ty} {l : List t.D} {s : RS} (hb : h[b]? = some (.row t l s)) {v : Value}
    (hc : RelC w (avs A ρ (.box cs :: h)) ρ (.box cs :: h) (.sl (b + 1) none) v) : RelC w (avs A ρ [.box cs']) ρ [.box cs'] (.ro t l) v := by
  have hb' : (Blk.box cs :: h)[b + 1]? = some (.row t l s) := hb
  have hlt : b + 1 < (Blk.box cs :: h).length := lt_of_get hb'
  refine sl_data (wn := none) hc hb' (hH.blk _ _ hb') (fun r base e ha => ?_) (fun r ha => avs_seal ha)
  rcases ha with ha | ⟨c, blk, base', h1, h2, h3⟩
  · exact (hH.out _ r base hlt e).2 ha
  · match c, h1 with
    | 0, h1 =>
      have := hH.inj _ _ r base base' hlt (by simp) e h3
      omega
theorem SC.told2 {P : Program} {f : Nat} {args : List W} {t1 t2 : Ty} {l1 : List t1.D} {l2 : List t2.D} {s1 s2 : RS} (h : SC P f args [] [.one (.ptr 0 0 0)] [.box [.sl 1 none, .sl 2 none], .row t1 l1 s1, .row t2 l2 s2]) :
    SC P f args [] [.one (.ptr 0 0 0)] [.box [.ro t1 l1, .ro t2 l2]] := by
  intro w vs ρ A hH hA
  refine (h w vs ρ A hH hA).mono fun e w' ⟨v, ρ', he, hH', hr, hfr, hlen, k1, k2, k3, k4⟩ => ?_
  refine ⟨v, ρ', he, ⟨fun b b' r base base' hb hb' => hH'.inj b b' r base base' (by simp at hb ⊢; omega) (by simp at hb' ⊢; omega), fun b x hx => ?_, fun b r base hb => hH'.out b r base (by simp at hb ⊢; omega), hH'.A⟩, ?_, hfr, Nat.zero_le _, fun b x _ hb => absurd hb (Nat.not_lt_zero _), fun b r base hb => absurd hb (Nat.not_lt_zero _), fun b r base h0 hb => k3 b r base h0 (by simp at hb ⊢; omega), fun b x hx => by cases hx⟩
  · match b, hx with
    | 0, hx =>
      cases hx
      obtain ⟨r, cs, ty, hρ, hw, ha⟩ := hH'.blk 0 _ rfl
      refine ⟨r, cs, ty, hρ, hw, ?_⟩
      generalize cs.toList = xs at ha
      cases ha with
      | cons a1 ha => cases ha with
        | cons a2 ha => cases ha with
          | nil => exact .cons (sealed (b := 0) hH' rfl a1) (.cons (sealed (b := 1) hH' rfl a2) .nil)
  · obtain ⟨blk, r, base, h1, h2, h3⟩ := hr
    cases h1
    exact ⟨_, r, base, rfl, h2, h3⟩
theorem SC.toldNil {P : Program} {f : Nat} {args : List W} {t1 t2 : Ty} (h : SC P f args [] [.one (.ptr 0 0 0)] [.box [.nil, .nil]]) : SC P f args [] [.one (.ptr 0 0 0)] [.box [.ro t1 [], .ro t2 []]] := by
  intro w vs ρ A hH hA
  refine (h w vs ρ A hH hA).mono fun e w' ⟨v, ρ', he, hH', hr, hfr, hlen, k1, k2, k3, k4⟩ => ?_
  refine ⟨v, ρ', he, ⟨fun b b' r base base' hb hb' => hH'.inj b b' r base base' (by simp at hb ⊢; omega) (by simp at hb' ⊢; omega), fun b x hx => ?_, fun b r base hb => hH'.out b r base (by simp at hb ⊢; omega), hH'.A⟩, ?_, hfr, Nat.zero_le _, fun b x _ hb => absurd hb (Nat.not_lt_zero _), fun b r base hb => absurd hb (Nat.not_lt_zero _), fun b r base h0 hb => k3 b r base h0 (by simp at hb ⊢; omega), fun b x hx => by cases hx⟩
  · match b, hx with
    | 0, hx =>
      cases hx
      obtain ⟨r, cs, ty, hρ, hw, ha⟩ := hH'.blk 0 _ rfl
      refine ⟨r, cs, ty, hρ, hw, ?_⟩
      generalize cs.toList = xs at ha
      have hn : ∀ (t : Ty) (v : Value), RelC w' (avs A ρ' [.box [.nil, .nil]]) ρ' [.box [.nil, .nil]] .nil v → RelC w' (avs A ρ' [.box [.ro t1 [], .ro t2 []]]) ρ' [.box [.ro t1 [], .ro t2 []]] (.ro t []) v := by
        intro t v hv
        exact ⟨none, 0, by rw [show v = .slice none 0 0 from hv]; rfl, Nat.le_refl _, fun i x hx => by cases hx⟩
      cases ha with
      | cons a1 ha => cases ha with
        | cons a2 ha => cases ha with
          | nil => exact .cons (hn _ _ a1) (.cons (hn _ _ a2) .nil)
  · obtain ⟨blk, r, base, h1, h2, h3⟩ := hr
    cases h1
    exact ⟨_, r, base, rfl, h2, h3⟩

end Go.Proofs.Ytlebgbcoljnejaa.Sh
