/- All sets of shards, decided: the reference's way is the program's. No program here. -/
import Derived.Test.YtjoiadaogppmkaaGreatMaSpec
namespace Go.Proofs.YtjoiadaogppmkaaGreat.Sh
set_option linter.unusedVariables false

set_option maxRecDepth 100000 in
theorem spec_key10 : ∀ b : Nat, b < 32 → chkS 1 (thereB 8 (b + 0)) = true := by decide +kernel
set_option maxRecDepth 100000 in
theorem spec_key11 : ∀ b : Nat, b < 32 → chkS 1 (thereB 8 (b + 32)) = true := by decide +kernel
set_option maxRecDepth 100000 in
theorem spec_key12 : ∀ b : Nat, b < 32 → chkS 1 (thereB 8 (b + 64)) = true := by decide +kernel
set_option maxRecDepth 100000 in
theorem spec_key13 : ∀ b : Nat, b < 32 → chkS 1 (thereB 8 (b + 96)) = true := by decide +kernel
set_option maxRecDepth 100000 in
theorem spec_key14 : ∀ b : Nat, b < 32 → chkS 1 (thereB 8 (b + 128)) = true := by decide +kernel
set_option maxRecDepth 100000 in
theorem spec_key15 : ∀ b : Nat, b < 32 → chkS 1 (thereB 8 (b + 160)) = true := by decide +kernel
set_option maxRecDepth 100000 in
theorem spec_key16 : ∀ b : Nat, b < 32 → chkS 1 (thereB 8 (b + 192)) = true := by decide +kernel
set_option maxRecDepth 100000 in
theorem spec_key17 : ∀ b : Nat, b < 32 → chkS 1 (thereB 8 (b + 224)) = true := by decide +kernel
set_option maxRecDepth 100000 in
theorem spec_key20 : ∀ b : Nat, b < 32 → chkS 2 (thereB 8 (b + 0)) = true := by decide +kernel
set_option maxRecDepth 100000 in
theorem spec_key21 : ∀ b : Nat, b < 32 → chkS 2 (thereB 8 (b + 32)) = true := by decide +kernel
set_option maxRecDepth 100000 in
theorem spec_key22 : ∀ b : Nat, b < 32 → chkS 2 (thereB 8 (b + 64)) = true := by decide +kernel
set_option maxRecDepth 100000 in
theorem spec_key23 : ∀ b : Nat, b < 32 → chkS 2 (thereB 8 (b + 96)) = true := by decide +kernel
set_option maxRecDepth 100000 in
theorem spec_key24 : ∀ b : Nat, b < 32 → chkS 2 (thereB 8 (b + 128)) = true := by decide +kernel
set_option maxRecDepth 100000 in
theorem spec_key25 : ∀ b : Nat, b < 32 → chkS 2 (thereB 8 (b + 160)) = true := by decide +kernel
set_option maxRecDepth 100000 in
theorem spec_key26 : ∀ b : Nat, b < 32 → chkS 2 (thereB 8 (b + 192)) = true := by decide +kernel
set_option maxRecDepth 100000 in
theorem spec_key27 : ∀ b : Nat, b < 32 → chkS 2 (thereB 8 (b + 224)) = true := by decide +kernel
theorem spec_all {kind : Int} (h : ∀ c b : Nat, c < 8 → b < 32 → chkS kind (thereB 8 (b + 32 * c)) = true) : ∀ b : Nat, b < 256 → chkS kind (thereB 8 b) = true := by
  intro b hb
  have := h (b / 32) (b % 32) (by omega) (by omega)
  rw [show b % 32 + 32 * (b / 32) = b by omega] at this
  exact this
theorem spec_key {kind : Int} (hk : inB kind 1 2 = true) {there : List Bool} (h8 : there.length = 8) : chkS kind there = true := by
  refine all_there (p := fun l => chkS kind l = true) (spec_all fun c b hc hb => ?_) h8
  have : c = 0 ∨ c = 1 ∨ c = 2 ∨ c = 3 ∨ c = 4 ∨ c = 5 ∨ c = 6 ∨ c = 7 := by omega
  rcases kind_cases hk with rfl | rfl
  · rcases this with rfl | rfl | rfl | rfl | rfl | rfl | rfl | rfl
    · exact spec_key10 b hb
    · exact spec_key11 b hb
    · exact spec_key12 b hb
    · exact spec_key13 b hb
    · exact spec_key14 b hb
    · exact spec_key15 b hb
    · exact spec_key16 b hb
    · exact spec_key17 b hb
  · rcases this with rfl | rfl | rfl | rfl | rfl | rfl | rfl | rfl
    · exact spec_key20 b hb
    · exact spec_key21 b hb
    · exact spec_key22 b hb
    · exact spec_key23 b hb
    · exact spec_key24 b hb
    · exact spec_key25 b hb
    · exact spec_key26 b hb
    · exact spec_key27 b hb

end Go.Proofs.YtjoiadaogppmkaaGreat.Sh
