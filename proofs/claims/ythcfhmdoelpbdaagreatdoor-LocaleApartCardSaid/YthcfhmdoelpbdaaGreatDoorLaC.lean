/- LocaleApart: a part of its check. -/
import Derived.Test.YthcfhmdoelpbdaaGreatDoorLaT
namespace Go.Proofs.YthcfhmdoelpbdaaGreatDoor
set_option linter.unusedVariables false
set_option linter.unusedSimpArgs false
open Go Go.Sy Go.RowKit

theorem la2_0 (t1 t2 t3 t4 t5 : TypeId) : laL.ok (laRun t1 t2 t3 t4 t5) ((laC 0, true) :: laFC 0 (laFN 2)) = true := by kernel_rfl
theorem la2_1 (t1 t2 t3 t4 t5 : TypeId) : laL.ok (laRun t1 t2 t3 t4 t5) ((laC 1, true) :: laFC 1 (laFN 2)) = true := by kernel_rfl
theorem la2_2 (t1 t2 t3 t4 t5 : TypeId) : laL.ok (laRun t1 t2 t3 t4 t5) ((laC 2, true) :: laFC 2 (laFN 2)) = true := by kernel_rfl
theorem la2_3 (t1 t2 t3 t4 t5 : TypeId) : laL.ok (laRun t1 t2 t3 t4 t5) ((laC 3, true) :: laFC 3 (laFN 2)) = true := by kernel_rfl
theorem la2_4 (t1 t2 t3 t4 t5 : TypeId) : laL.ok (laRun t1 t2 t3 t4 t5) ((laC 4, true) :: laFC 4 (laFN 2)) = true := by kernel_rfl
theorem la2_5 (t1 t2 t3 t4 t5 : TypeId) : laL.ok (laRun t1 t2 t3 t4 t5) ((laC 5, true) :: laFC 5 (laFN 2)) = true := by kernel_rfl
theorem la2_6 (t1 t2 t3 t4 t5 : TypeId) : laL.ok (laRun t1 t2 t3 t4 t5) ((laC 6, true) :: laFC 6 (laFN 2)) = true := by kernel_rfl
theorem la2_7 (t1 t2 t3 t4 t5 : TypeId) : laL.ok (laRun t1 t2 t3 t4 t5) ((laC 7, true) :: laFC 7 (laFN 2)) = true := by kernel_rfl
theorem la2_8 (t1 t2 t3 t4 t5 : TypeId) : laL.ok (laRun t1 t2 t3 t4 t5) ((laC 8, true) :: laFC 8 (laFN 2)) = true := by kernel_rfl
theorem la2_9 (t1 t2 t3 t4 t5 : TypeId) : laL.ok (laRun t1 t2 t3 t4 t5) ((laC 9, true) :: laFC 9 (laFN 2)) = true := by kernel_rfl
theorem la2_10 (t1 t2 t3 t4 t5 : TypeId) : laL.ok (laRun t1 t2 t3 t4 t5) ((laC 10, true) :: laFC 10 (laFN 2)) = true := by kernel_rfl
theorem la2_11 (t1 t2 t3 t4 t5 : TypeId) : laL.ok (laRun t1 t2 t3 t4 t5) ((laC 11, true) :: laFC 11 (laFN 2)) = true := by kernel_rfl
theorem la2_12 (t1 t2 t3 t4 t5 : TypeId) : laL.ok (laRun t1 t2 t3 t4 t5) ((laC 12, true) :: laFC 12 (laFN 2)) = true := by kernel_rfl
theorem la2_13 (t1 t2 t3 t4 t5 : TypeId) : laL.ok (laRun t1 t2 t3 t4 t5) ((laC 13, true) :: laFC 13 (laFN 2)) = true := by kernel_rfl
theorem la2_14 (t1 t2 t3 t4 t5 : TypeId) : laL.ok (laRun t1 t2 t3 t4 t5) ((laC 14, true) :: laFC 14 (laFN 2)) = true := by kernel_rfl
theorem la2 (t1 t2 t3 t4 t5 : TypeId) : laT1.ok (laRun t1 t2 t3 t4 t5) (laFN 2) = true := okT_node (la2_0 t1 t2 t3 t4 t5) (okT_node (la2_1 t1 t2 t3 t4 t5) (okT_node (la2_2 t1 t2 t3 t4 t5) (okT_node (la2_3 t1 t2 t3 t4 t5) (okT_node (la2_4 t1 t2 t3 t4 t5) (okT_node (la2_5 t1 t2 t3 t4 t5) (okT_node (la2_6 t1 t2 t3 t4 t5) (okT_node (la2_7 t1 t2 t3 t4 t5) (okT_node (la2_8 t1 t2 t3 t4 t5) (okT_node (la2_9 t1 t2 t3 t4 t5) (okT_node (la2_10 t1 t2 t3 t4 t5) (okT_node (la2_11 t1 t2 t3 t4 t5) (okT_node (la2_12 t1 t2 t3 t4 t5) (okT_node (la2_13 t1 t2 t3 t4 t5) (okT_need (la2_14 t1 t2 t3 t4 t5)))))))))))))))
end Go.Proofs.YthcfhmdoelpbdaaGreatDoor
