/- TableParts' walk: it returns true and writes nothing that was there, at every command. Conditions: the slice is one that came in. -/
import Derived.Test.YthlcnccniliigaaPartsS1
import Derived.Test.YthlcnccniliigaaPartsS2
import Derived.Test.YthlcnccniliigaaPartsS3
import Derived.Test.YthlcnccniliigaaPartsS4
import Derived.Test.YthlcnccniliigaaPartsS5
import Derived.Test.YthlcnccniliigaaPartsS6
import Derived.Test.YthlcnccniliigaaPartsS7
import Derived.Test.YthlcnccniliigaaPartsS8
namespace Go.Proofs.Ythlcnccniliigaa
open Go.RowKit
set_option linter.unusedVariables false

theorem parts_walk (wh x : Int) (a : Option Addr) (len cap : Nat) (zs : List Int) (y : Int) (w : World) (hz : IsRow w a len cap zs) :
    Calls Try.prog 13 #[.int .i64 wh, .int .i64 x, .slice a len cap, .int .i64 y] w (RetBool true w) := by
  obtain ⟨hxl, hxs, hmx, -⟩ := isRow_ints hz
  generalize zs.take len = xs at *
  subst hxl
  obtain ⟨k, hk, hke⟩ := rem14 wh
  match k, hk, hke with
  | 0, hk, hke => exact parts_s1 1 wh x y 0 a cap xs w hk hke rfl rfl rfl hxs hmx
  | 1, hk, hke => exact parts_s2 2 wh x y 1 a cap xs w hk hke rfl rfl rfl hxs hmx
  | 2, hk, hke => exact parts_s3 3 wh x y 2 a cap xs w hk hke rfl rfl rfl hxs hmx
  | 3, hk, hke => exact parts_s4 4 wh x y 3 a cap xs w hk hke rfl rfl rfl hxs hmx
  | 4, hk, hke => exact parts_s5 5 wh x y 4 a cap xs w hk hke rfl rfl rfl hxs hmx
  | 5, hk, hke => exact parts_s4 6 wh x y 5 a cap xs w hk hke rfl rfl rfl hxs hmx
  | 6, hk, hke => exact parts_s6 32 wh x y 6 a cap xs w hk hke rfl rfl rfl hxs hmx
  | 7, hk, hke => exact parts_s5 53 wh x y 7 a cap xs w hk hke rfl rfl rfl hxs hmx
  | 8, hk, hke => exact parts_s7 90 1 wh x y 8 a cap xs w hk hke rfl rfl rfl (by decide) hxs hmx
  | 9, hk, hke => exact parts_s7 107 4 wh x y 9 a cap xs w hk hke rfl rfl rfl (by decide) hxs hmx
  | 10, hk, hke => exact parts_s4 117 wh x y 10 a cap xs w hk hke rfl rfl rfl hxs hmx
  | 11, hk, hke => exact parts_s4 122 wh x y 11 a cap xs w hk hke rfl rfl rfl hxs hmx
  | 12, hk, hke => exact parts_s5 159 wh x y 12 a cap xs w hk hke rfl rfl rfl hxs hmx
  | 13, hk, hke => exact parts_s8 235 wh x y 13 a cap xs w hk hke rfl rfl rfl hxs hmx
end Go.Proofs.Ythlcnccniliigaa
