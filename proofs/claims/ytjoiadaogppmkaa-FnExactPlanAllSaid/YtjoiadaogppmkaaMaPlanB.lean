/- Plans over all sets of shards, the second kind, decided. No program here. -/
import Derived.Test.YtjoiadaogppmkaaMaPlan
namespace Go.Proofs.Ytjoiadaogppmkaa.Sh
set_option linter.unusedVariables false
set_option linter.unusedSimpArgs false

set_option maxRecDepth 100000 in
theorem plan_key20 : (subsR every8L).all (chkP 2 0) = true := by decide +kernel
set_option maxRecDepth 100000 in
theorem has_key20 : (subsR every8L).all (chkH 2 0) = true := by decide +kernel
set_option maxRecDepth 100000 in
theorem plan_key21 : (subsR every8L).all (chkP 2 1) = true := by decide +kernel
set_option maxRecDepth 100000 in
theorem has_key21 : (subsR every8L).all (chkH 2 1) = true := by decide +kernel
set_option maxRecDepth 100000 in
theorem plan_key22 : (subsR every8L).all (chkP 2 2) = true := by decide +kernel
set_option maxRecDepth 100000 in
theorem has_key22 : (subsR every8L).all (chkH 2 2) = true := by decide +kernel
set_option maxRecDepth 100000 in
theorem plan_key23 : (subsR every8L).all (chkP 2 3) = true := by decide +kernel
set_option maxRecDepth 100000 in
theorem has_key23 : (subsR every8L).all (chkH 2 3) = true := by decide +kernel
set_option maxRecDepth 100000 in
theorem plan_key24 : (subsR every8L).all (chkP 2 4) = true := by decide +kernel
set_option maxRecDepth 100000 in
theorem has_key24 : (subsR every8L).all (chkH 2 4) = true := by decide +kernel
set_option maxRecDepth 100000 in
theorem plan_key25 : (subsR every8L).all (chkP 2 5) = true := by decide +kernel
set_option maxRecDepth 100000 in
theorem has_key25 : (subsR every8L).all (chkH 2 5) = true := by decide +kernel
set_option maxRecDepth 100000 in
theorem plan_key26 : (subsR every8L).all (chkP 2 6) = true := by decide +kernel
set_option maxRecDepth 100000 in
theorem has_key26 : (subsR every8L).all (chkH 2 6) = true := by decide +kernel
set_option maxRecDepth 100000 in
theorem plan_key27 : (subsR every8L).all (chkP 2 7) = true := by decide +kernel
set_option maxRecDepth 100000 in
theorem has_key27 : (subsR every8L).all (chkH 2 7) = true := by decide +kernel
end Go.Proofs.Ytjoiadaogppmkaa.Sh
