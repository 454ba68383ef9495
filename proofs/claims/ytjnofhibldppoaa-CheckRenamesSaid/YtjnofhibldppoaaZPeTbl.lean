/-
 The functions of the seat, compiled for the interpreter of plain data, as literals, each compared by the kernel. No condition. (Printed by gen_table.py.)
-/
import Derived.Test.YtjnofhibldppoaaZPeTb0
set_option linter.unusedVariables false
set_option maxRecDepth 100000
namespace Go.Pe
open Go Go.Am Go.RowKit
theorem t91:Qx 91=some (Qj 91):=Qy (by kernel_rfl)
theorem t92:Qx 92=some (Qj 92):=Qy (by kernel_rfl)
theorem t93:Qx 93=some (Qj 93):=Qy (by kernel_rfl)
theorem t94:Qx 94=some (Qj 94):=Qy (by kernel_rfl)
theorem t96:Qx 96=some (Qj 96):=Qy (by kernel_rfl)
theorem t97:Qx 97=some (Qj 97):=Qy (by kernel_rfl)
theorem t98:Qx 98=some (Qj 98):=Qy (by kernel_rfl)
theorem t101:Qx 101=some (Qj 101):=Qy (by kernel_rfl)
theorem t102:Qx 102=some (Qj 102):=Qy (by kernel_rfl)
noncomputable def tblL:List (Nat×MFunc):=[(8,m8),(9,m9),(10,(Qj 10)),(13,(Qj 13)),(18,m18),(19,m19),(20,m20),(21,m21),(22,m22),(23,m23),(24,m24),(25,m25),(26,(Qj 26)),(28,m28),(29,m29),(30,m30),(31,m31),(32,m32),(33,m33),(34,m34),(35,m35),(36,m36),(37,m37),(38,m38),(39,(Qj 39)),(40,m40),(41,m41),(42,m42),(43,m43),(44,m44),(45,m45),(46,m46),(47,m47),(48,m48),(49,m49),(50,(Qj 50)),(51,(Qj 51)),(52,(Qj 52)),(53,(Qj 53)),(54,(Qj 54)),(55,(Qj 55)),(56,(Qj 56)),(57,(Qj 57)),(58,m58),(59,m59),(60,m60),(61,m61),(62,m62),(63,m63),(64,m64),(65,m65),(66,m66),(67,m67),(68,m68),(69,m69),(70,m70),(71,(Qj 71)),(72,(Qj 72)),(73,(Qj 73)),(74,(Qj 74)),(75,m75),(76,m76),(77,m77),(78,(Qj 78)),(79,m79),(80,(Qj 80)),(81,m81),(82,m82),(83,(Qj 83)),(84,m84),(85,m85),(86,m86),(87,m87),(88,(Qj 88)),(89,(Qj 89)),(90,(Qj 90)),(91,(Qj 91)),(92,(Qj 92)),(93,(Qj 93)),(94,(Qj 94)),(96,(Qj 96)),(97,(Qj 97)),(98,(Qj 98)),(101,(Qj 101)),(102,(Qj 102))]
theorem NbP:NoI Go.Proofs.Try.prog (Nah Go.Proofs.Try.prog [] [19]) tblL:=⟨t8,t9,t10,t13,t18,t19,t20,t21,t22,t23,t24,t25,t26,t28,t29,t30,t31,t32,t33,t34,t35,t36,t37,t38,t39,t40,t41,t42,t43,t44,t45,t46,t47,t48,t49,t50,t51,t52,t53,t54,t55,t56,t57,t58,t59,t60,t61,t62,t63,t64,t65,t66,t67,t68,t69,t70,t71,t72,t73,t74,t75,t76,t77,t78,t79,t80,t81,t82,t83,t84,t85,t86,t87,t88,t89,t90,t91,t92,t93,t94,t96,t97,t98,t101,t102,trivial⟩
end Go.Pe
