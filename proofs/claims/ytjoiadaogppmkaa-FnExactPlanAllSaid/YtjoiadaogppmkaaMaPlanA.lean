/- Plans over all sets of shards, the first kind, decided. No program here. -/
import Derived.Test.YtjoiadaogppmkaaMaPlan
namespace Go.Proofs.Ytjoiadaogppmkaa.Sh
set_option linter.unusedVariables false
set_option linter.unusedSimpArgs false

set_option maxRecDepth 100000 in
theorem plan_key10 : (subsR every8L).all (chkP 1 0) = true := by decide +kernel
set_option maxRecDepth 100000 in
theorem has_key10 : (subsR every8L).all (chkH 1 0) = true := by decide +kernel
set_option maxRecDepth 100000 in
theorem plan_key11 : (subsR every8L).all (chkP 1 1) = true := by decide +kernel
set_option maxRecDepth 100000 in
theorem has_key11 : (subsR every8L).all (chkH 1 1) = true := by decide +kernel
set_option maxRecDepth 100000 in
theorem plan_key12 : (subsR every8L).all (chkP 1 2) = true := by decide +kernel
set_option maxRecDepth 100000 in
theorem has_key12 : (subsR every8L).all (chkH 1 2) = true := by decide +kernel
set_option maxRecDepth 100000 in
theorem plan_key13 : (subsR every8L).all (chkP 1 3) = true := by decide +kernel
set_option maxRecDepth 100000 in
theorem has_key13 : (subsR every8L).all (chkH 1 3) = true := by decide +kernel
set_option maxRecDepth 100000 in
theorem plan_key14 : (subsR every8L).all (chkP 1 4) = true := by decide +kernel
set_option maxRecDepth 100000 in
theorem has_key14 : (subsR every8L).all (chkH 1 4) = true := by decide +kernel
set_option maxRecDepth 100000 in
theorem plan_key15 : (subsR every8L).all (chkP 1 5) = true := by decide +kernel
set_option maxRecDepth 100000 in
theorem has_key15 : (subsR every8L).all (chkH 1 5) = true := by decide +kernel
set_option maxRecDepth 100000 in
theorem plan_key16 : (subsR every8L).all (chkP 1 6) = true := by decide +kernel
set_option maxRecDepth 100000 in
theorem has_key16 : (subsR every8L).all (chkH 1 6) = true := by decide +kernel
set_option maxRecDepth 100000 in
theorem plan_key17 : (subsR every8L).all (chkP 1 7) = true := by decide +kernel
set_option maxRecDepth 100000 in
theorem has_key17 : (subsR every8L).all (chkH 1 7) = true := by decide +kernel
end Go.Proofs.Ytjoiadaogppmkaa.Sh
