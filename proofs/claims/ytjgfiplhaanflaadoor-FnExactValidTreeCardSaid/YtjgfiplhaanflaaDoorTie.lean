/-
  DERIVED. GIVEN WITH THE SEED: THE PROGRAM's TIES (one call each: nine closed facts by the kernel) AND EACH ROW's TIE, after the 31st guide's Derived/Test/Toyas{Tie, Card}.lean. No idea stands in it: it is a product of the set-up. Laid BY PROGRAM, IN A SANDBOX (cutbox-door.mjs). By AI agents, Wed Nov 11 2026. No macro, syntax, notation, axiom, sorry.
-/
import Derived.Test.YtjgfiplhaanflaaDoorRows
import Derived.LaidByTextLater
import Derived.SevenTiedAt
import Derived.LaidSub
import Derived.LaidOnce
namespace Go.Proofs.YtjgfiplhaanflaaDoor
open Go
set_option maxRecDepth 100000
theorem seatTie1 : Tryd.prog.laidByTextLater [("loop.example/s01725/impl.reserved", Rows.laid_loop_example_s01725_impl_reserved), ("loop.example/s01725/impl.binRv", Rows.laid_loop_example_s01725_impl_binRv)] [.widerDeep, .mapped] true :=
  Program.laidByTextLater_by_one 74 8 8 (by kernel_rfl) (by kernel_rfl) (by kernel_rfl) (by kernel_rfl) (by kernel_rfl) (by kernel_rfl) (fun _ _ => by kernel_rfl)
theorem noOwnUnsafe : Tryd.pinned.checked.prog.headLifts.contains "ownunsafe" = false := by kernel_rfl
theorem tie : Tryd.prog.laidByTextLater [("loop.example/s01725/impl.reserved", Rows.laid_loop_example_s01725_impl_reserved)] [.widerDeep] true :=
  Program.laidByTextLater.sub seatTie1 ["loop.example/s01725/impl.reserved"] (by kernel_rfl) (by kernel_rfl)
theorem fnExactValidTree_row_tie : Rows.fnExactValidTreeRow.laidByTextAt .later Tryd.pinned [.widerDeep] true :=
  OpenClaim.laidByTextAt_later rfl rfl tie noOwnUnsafe
theorem tie2 : Tryd.prog.laidByTextLater [("loop.example/s01725/impl.reserved", Rows.laid_loop_example_s01725_impl_reserved), ("loop.example/s01725/impl.binRv", Rows.laid_loop_example_s01725_impl_binRv)] [.widerDeep, .mapped] true :=
  Program.laidByTextLater.sub seatTie1 ["loop.example/s01725/impl.reserved", "loop.example/s01725/impl.binRv"] (by kernel_rfl) (by kernel_rfl)
theorem fnFold_row_tie : Rows.fnFoldRow.laidByTextAt .later Tryd.pinned [.widerDeep, .mapped] true :=
  OpenClaim.laidByTextAt_later rfl rfl tie2 noOwnUnsafe
theorem fnExactValidTreeUpto_row_tie : Rows.fnExactValidTreeUptoRow.laidByTextAt .later Tryd.pinned [.widerDeep] true :=
  OpenClaim.laidByTextAt_later rfl rfl tie noOwnUnsafe
theorem fnFoldUpto_row_tie : Rows.fnFoldUptoRow.laidByTextAt .later Tryd.pinned [.widerDeep, .mapped] true :=
  OpenClaim.laidByTextAt_later rfl rfl tie2 noOwnUnsafe
end Go.Proofs.YtjgfiplhaanflaaDoor
