/- Written by a program of this session (a turned copy of the kit's printer): what each Go function answers, and that it does. -/
import Derived.Test.YtanllimeiofaaaaProg
import Derived.Below
import Derived.Deep.Draws
import Derived.Deep.AppendLies
import Derived.Maps.AppendAt
import Derived.OwnWalk
import Derived.Laws.BytesArg
import Derived.Laws.MakeOwn
import Derived.Laws.OwnMore
import Derived.Deep.OwnRows
import Derived.Tactics
import Derived.Lib.ConvBytes
import Derived.Laws.Slices
import Derived.WalkKit
import Derived.KernelRfl
import Derived.RowKit3
import Derived.Deep.LoopGhost
import Derived.Deep.QuietTactic
import Derived.BigQuiet
import Derived.WideLaws
import Derived.Deep.DeepCutAuto
import Derived.Deep.CutBlock
import Derived.Deep.RegionHeld3
import Derived.Laws.Rows
import Derived.Lib.AppendStr
import Derived.ArgAppend
import Derived.Laws.IdiomCopy
import Derived.OrdersHeld
import Derived.Laws.BitsLemmas
import Derived.RowKit
import Derived.Test.YtanllimeiofaaaaCells
import Derived.Test.YtanllimeiofaaaaWWords
import Derived.Test.YtanllimeiofaaaaWLast
import Derived.Test.YtanllimeiofaaaaWTab
import Derived.Test.YtanllimeiofaaaaWFour
import Derived.Test.YtanllimeiofaaaaWQPut
import Derived.Test.YtanllimeiofaaaaWApart
import Derived.Test.YtanllimeiofaaaaWArr
import Derived.Test.YtanllimeiofaaaaWZeros
import Derived.Test.YtanllimeiofaaaaWFoot
import Derived.Test.YtanllimeiofaaaaWKept
import Derived.Test.YtanllimeiofaaaaWShare
import Derived.Test.YtanllimeiofaaaaWN
import Derived.Test.YtanllimeiofaaaaWFootNe
import Derived.Test.YtanllimeiofaaaaWAt
import Derived.Test.YtanllimeiofaaaaWEqStruct
import Derived.Test.YtanllimeiofaaaaWRepsOne
import Derived.Test.YtanllimeiofaaaaWInv
import Derived.Test.YtanllimeiofaaaaWInvWords
import Derived.Test.YtanllimeiofaaaaWGuard
import Derived.Test.YtanllimeiofaaaaWNEv
import Derived.Test.YtanllimeiofaaaaWMore
namespace Go.Proofs.Ytanllimeiofaaaa.PFnAccounts
open Go.RowKit Go.Proofs.YtanllimeiofaaaaW.PrintWords Go.Proofs.YtanllimeiofaaaaW.PrintLast Go.Proofs.YtanllimeiofaaaaW.PrintMore
attribute [local go_sem] Go.Proofs.Ytanllimeiofaaaa.Cells.cell_set_at max2_int min2_int max_two min_two max_three min_three max_four min_four   -- for this text's walks alone
set_option linter.unusedVariables false
set_option linter.unusedSimpArgs false



theorem Am {p : Prop} (h : p) : Aside0 p := Aside0.mk h
theorem hs_ {n : Nat} {w w' : World} {a : Addr} {v : Value} (hb : Below w.heap.size w w') (h : w.cell? a = some v) : w'.cell? a = some v := (hb.cell (World.block_lt_of_cell? _ _ h)).trans h
theorem zA {α : Type _} (l : List α) (i : Nat) (a : α) : l.toArray.setIfInBounds i a = (l.set i a).toArray := List.setIfInBounds_toArray ..
theorem zB {α : Type _} {x : α} {xs : List α} {a : α} : (x :: xs).set 0 a = a :: xs := rfl
theorem zC {α : Type _} {x : α} {xs : List α} {n : Nat} {a : α} : (x :: xs).set (n + 1) a = x :: xs.set n a := rfl
abbrev T : Bool := true
abbrev F : Bool := false
theorem b1 : type_of% @blk_drewN := @blk_drewN
theorem b2 : type_of% @blk_drew := @blk_drew
theorem b3 : type_of% @blk_alloc := @blk_alloc
theorem b4 : type_of% @pw_below_drewN := @pw_below_drewN
theorem b5 : type_of% @below_alloc := @below_alloc
theorem b6 : type_of% @below_drew1 := @below_drew1
theorem b7 : type_of% @below_set := @below_set
theorem b8 : type_of% @blk_cell := @blk_cell
def errW : Option Int → Value
  | none => .nilIface
  | some c => .iface 0 (.int .i64 c)
theorem errW_none : errW none = .nilIface := rfl
theorem errW_some (c : Int) : errW (some c) = .iface 0 (.int .i64 c) := rfl

theorem info3 : (Try.prog.info? 3).map (fun i => (i.zero, i.size, i.bytes)) = some (some (.int .i64 0), 1, 8) := by kernel_rfl
-- the values' own types

end Go.Proofs.Ytanllimeiofaaaa.PFnAccounts
