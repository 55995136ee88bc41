/-
  Single calls that the law VerdictKnown makes, computed by the executor of the abstract layer (part 12).
-/
import Derived.Test.YthgnjkimfaodkacGreatVerdictKnownD1
namespace Go.Proofs.YthgnjkimfaodkacGreat.verdictKnown
open Go
theorem c180 (w : World) : Abs.memOk (Abs.Env.of Tryz.prog w) F179 1000 m180 = true := by kernel_rfl
theorem c181 (w : World) : Abs.memOk (Abs.Env.of Tryz.prog w) F180 1000 m181 = true := by kernel_rfl
theorem c182 (w : World) : Abs.memOk (Abs.Env.of Tryz.prog w) F181 1000 m182 = true := by kernel_rfl
theorem c183 (w : World) : Abs.memOk (Abs.Env.of Tryz.prog w) F182 1000 m183 = true := by kernel_rfl
theorem c184 (w : World) : Abs.memOk (Abs.Env.of Tryz.prog w) F183 1000 m184 = true := by kernel_rfl
theorem c185 (w : World) : Abs.memOk (Abs.Env.of Tryz.prog w) F184 1000 m185 = true := by kernel_rfl
theorem c186 (w : World) : Abs.memOk (Abs.Env.of Tryz.prog w) F185 1000 m186 = true := by kernel_rfl
theorem c187 (w : World) : Abs.memOk (Abs.Env.of Tryz.prog w) F186 1000 m187 = true := by kernel_rfl
theorem c188 (w : World) : Abs.memOk (Abs.Env.of Tryz.prog w) F187 1000 m188 = true := by kernel_rfl
theorem c189 (w : World) : Abs.memOk (Abs.Env.of Tryz.prog w) F188 1000 m189 = true := by kernel_rfl
theorem c190 (w : World) : Abs.memOkT (Abs.Env.of Tryz.prog w) F189 1000 m190 = true := by kernel_rfl
theorem c191 (w : World) : Abs.memOk (Abs.Env.of Tryz.prog w) F190 1000 m191 = true := by kernel_rfl
theorem c192 (w : World) : Abs.memOk (Abs.Env.of Tryz.prog w) F191 1000 m192 = true := by kernel_rfl
theorem c193 (w : World) : Abs.memOk (Abs.Env.of Tryz.prog w) F192 1000 m193 = true := by kernel_rfl
theorem c194 (w : World) : Abs.memOk (Abs.Env.of Tryz.prog w) F193 1000 m194 = true := by kernel_rfl
theorem c195 (w : World) : Abs.memOk (Abs.Env.of Tryz.prog w) F194 1000 m195 = true := by kernel_rfl
end Go.Proofs.YthgnjkimfaodkacGreat.verdictKnown
