/-
  No cell of these rows narrows 'for every input' (looked for: loops, veiled, ifaces, maps, wideKeys, modest, calm, conditions, laid).
  DERIVED. THE GIVEN ROWS OF THIS SEAT. 11 by the template 'for every input the law returns true; each argument reads behind the call as it read before'; 0 by the template 'total and deterministic' (their statements: YthlcnccniliigaaTotals.lean).
  GIVEN WITH THE SEED: the statements are not yours to turn. If you find one false, say at which input.
  Laid BY PROGRAM, IN A SANDBOX (cutbox-rows.mjs): the forced cells as the released guide's own fill.sh prints them over the translation d8f90a6d1915d17c… (all of the seat's roots in one cut). By AI agents, Wed Nov 11 2026. No macro, syntax, notation, axiom, sorry.
-/
import Derived.Test.YthlcnccniliigaaChecked
import GoSem.Claim
import GoSem.ClaimJoined
import GoSem.ClaimMapViews
import Derived.JoinedTies
import Derived.KernelRfl
namespace Go.Proofs.Ythlcnccniliigaa
/- THE CELL 'sum', in the pinned program and in every row, IS THE sha256 OF THE DUMP (.gsa) THAT YthlcnccniliigaaProg.lean LOADS. Nothing in Lean hashes anything: it is a label: what it is worth is what the hold of that sum in a sandbox is worth. -/
noncomputable def Try.pinned : Pinned := { name := "ythlcnccniliigaa", sum := "d8f90a6d1915d17c8a2dc4666b9e2562d67e54c2b65615454ac0e047274b1a40", checked := Try.checked }
namespace Rows
def none {H : Type} : Left H := { results := [], args := [] }

/-- 'lichenlaw0.LichenNames': WHATEVER THE INPUT: true; the input reads as it did. -/
def lichenNamesSpec : ChangeSpec := { name := "lichenNames", fn := fun _ => fun
  | [] => { results := [.lit (.bool true)], args := [] }
  | _ => none }
def lichenNamesRow : OpenClaim := { program := "ythlcnccniliigaa", sum := "d8f90a6d1915d17c8a2dc4666b9e2562d67e54c2b65615454ac0e047274b1a40", func := "lichen/lichenlaw0.LichenNames", spec := "lichenNames", apart := false }
def LichenNamesSaid : Prop := lichenNamesRow.holds Try.pinned (OpenSpec.ofChange lichenNamesSpec)

/-- ITS FALSE NEIGHBOUR: 'it returns false'. Refute it at one input. -/
def lichenNamesWrong : ChangeSpec := { name := "lichenNames", fn := fun _ => fun
  | [] => { results := [.lit (.bool false)], args := [] }
  | _ => none }
def LichenNamesWrongFalsely : Prop := lichenNamesRow.holds Try.pinned (OpenSpec.ofChange lichenNamesWrong)

/-- 'lichenlaw5.Stats': WHATEVER THE INPUT: true; the input reads as it did. -/
def statsSpec : ChangeSpec := { name := "stats", fn := fun _ => fun
  | [d1, d2] => { results := [.lit (.bool true)], args := [d1, d2] }
  | _ => none }
def statsRow : OpenClaim := { program := "ythlcnccniliigaa", sum := "d8f90a6d1915d17c8a2dc4666b9e2562d67e54c2b65615454ac0e047274b1a40", func := "lichen/lichenlaw5.Stats", spec := "stats", unfollowed := true, recurses := true, apart := false }
def StatsSaid : Prop := statsRow.holds Try.pinned (OpenSpec.ofChange statsSpec)

/-- ITS FALSE NEIGHBOUR: 'it returns false'. Refute it at one input. -/
def statsWrong : ChangeSpec := { name := "stats", fn := fun _ => fun
  | [d1, d2] => { results := [.lit (.bool false)], args := [d1, d2] }
  | _ => none }
def StatsWrongFalsely : Prop := statsRow.holds Try.pinned (OpenSpec.ofChange statsWrong)

/-- 'lichenlaw5.StatBits': WHATEVER THE INPUT: true; the input reads as it did. -/
def statBitsSpec : ChangeSpec := { name := "statBits", fn := fun _ => fun
  | [d] => { results := [.lit (.bool true)], args := [d] }
  | _ => none }
def statBitsRow : OpenClaim := { program := "ythlcnccniliigaa", sum := "d8f90a6d1915d17c8a2dc4666b9e2562d67e54c2b65615454ac0e047274b1a40", func := "lichen/lichenlaw5.StatBits", spec := "statBits", unfollowed := true, recurses := true, apart := false }
def StatBitsSaid : Prop := statBitsRow.holds Try.pinned (OpenSpec.ofChange statBitsSpec)

/-- ITS FALSE NEIGHBOUR: 'it returns false'. Refute it at one input. -/
def statBitsWrong : ChangeSpec := { name := "statBits", fn := fun _ => fun
  | [d] => { results := [.lit (.bool false)], args := [d] }
  | _ => none }
def StatBitsWrongFalsely : Prop := statBitsRow.holds Try.pinned (OpenSpec.ofChange statBitsWrong)

/-- 'lichenlaw5.StatSectors': WHATEVER THE INPUT: true; the input reads as it did. -/
def statSectorsSpec : ChangeSpec := { name := "statSectors", fn := fun _ => fun
  | [d1, d2] => { results := [.lit (.bool true)], args := [d1, d2] }
  | _ => none }
def statSectorsRow : OpenClaim := { program := "ythlcnccniliigaa", sum := "d8f90a6d1915d17c8a2dc4666b9e2562d67e54c2b65615454ac0e047274b1a40", func := "lichen/lichenlaw5.StatSectors", spec := "statSectors", unfollowed := true, recurses := true, apart := false }
def StatSectorsSaid : Prop := statSectorsRow.holds Try.pinned (OpenSpec.ofChange statSectorsSpec)

/-- ITS FALSE NEIGHBOUR: 'it returns false'. Refute it at one input. -/
def statSectorsWrong : ChangeSpec := { name := "statSectors", fn := fun _ => fun
  | [d1, d2] => { results := [.lit (.bool false)], args := [d1, d2] }
  | _ => none }
def StatSectorsWrongFalsely : Prop := statSectorsRow.holds Try.pinned (OpenSpec.ofChange statSectorsWrong)

/-- 'lichenlaw4.Ops': WHATEVER THE INPUT: true; the input reads as it did. -/
def opsSpec : ChangeSpec := { name := "ops", fn := fun _ => fun
  | [d] => { results := [.lit (.bool true)], args := [d] }
  | _ => none }
def opsRow : OpenClaim := { program := "ythlcnccniliigaa", sum := "d8f90a6d1915d17c8a2dc4666b9e2562d67e54c2b65615454ac0e047274b1a40", func := "lichen/lichenlaw4.Ops", spec := "ops", apart := false }
def OpsSaid : Prop := opsRow.holds Try.pinned (OpenSpec.ofChange opsSpec)

/-- ITS FALSE NEIGHBOUR: 'it returns false'. Refute it at one input. -/
def opsWrong : ChangeSpec := { name := "ops", fn := fun _ => fun
  | [d] => { results := [.lit (.bool false)], args := [d] }
  | _ => none }
def OpsWrongFalsely : Prop := opsRow.holds Try.pinned (OpenSpec.ofChange opsWrong)

/-- 'lichenlaw4.OpAll': WHATEVER THE INPUT: true; the input reads as it did. -/
def opAllSpec : ChangeSpec := { name := "opAll", fn := fun _ => fun
  | [] => { results := [.lit (.bool true)], args := [] }
  | _ => none }
def opAllRow : OpenClaim := { program := "ythlcnccniliigaa", sum := "d8f90a6d1915d17c8a2dc4666b9e2562d67e54c2b65615454ac0e047274b1a40", func := "lichen/lichenlaw4.OpAll", spec := "opAll", apart := false }
def OpAllSaid : Prop := opAllRow.holds Try.pinned (OpenSpec.ofChange opAllSpec)

/-- ITS FALSE NEIGHBOUR: 'it returns false'. Refute it at one input. -/
def opAllWrong : ChangeSpec := { name := "opAll", fn := fun _ => fun
  | [] => { results := [.lit (.bool false)], args := [] }
  | _ => none }
def OpAllWrongFalsely : Prop := opAllRow.holds Try.pinned (OpenSpec.ofChange opAllWrong)

/-- 'lichenlaw4.OpTable': WHATEVER THE INPUT: true; the input reads as it did. -/
def opTableSpec : ChangeSpec := { name := "opTable", fn := fun _ => fun
  | [d] => { results := [.lit (.bool true)], args := [d] }
  | _ => none }
def opTableRow : OpenClaim := { program := "ythlcnccniliigaa", sum := "d8f90a6d1915d17c8a2dc4666b9e2562d67e54c2b65615454ac0e047274b1a40", func := "lichen/lichenlaw4.OpTable", spec := "opTable", apart := false }
def OpTableSaid : Prop := opTableRow.holds Try.pinned (OpenSpec.ofChange opTableSpec)

/-- ITS FALSE NEIGHBOUR: 'it returns false'. Refute it at one input. -/
def opTableWrong : ChangeSpec := { name := "opTable", fn := fun _ => fun
  | [d] => { results := [.lit (.bool false)], args := [d] }
  | _ => none }
def OpTableWrongFalsely : Prop := opTableRow.holds Try.pinned (OpenSpec.ofChange opTableWrong)

/-- 'lichenlaw9.Tables': WHATEVER THE INPUT: true; the input reads as it did. -/
def tablesSpec : ChangeSpec := { name := "tables", fn := fun _ => fun
  | [d1, d2, d3, d4, d5, d6] => { results := [.lit (.bool true)], args := [d1, d2, d3, d4, d5, d6] }
  | _ => none }
def tablesRow : OpenClaim := { program := "ythlcnccniliigaa", sum := "d8f90a6d1915d17c8a2dc4666b9e2562d67e54c2b65615454ac0e047274b1a40", func := "lichen/lichenlaw9.Tables", spec := "tables", unfollowed := true, recurses := true, apart := false }
def TablesSaid : Prop := tablesRow.holds Try.pinned (OpenSpec.ofChange tablesSpec)

/-- ITS FALSE NEIGHBOUR: 'it returns false'. Refute it at one input. -/
def tablesWrong : ChangeSpec := { name := "tables", fn := fun _ => fun
  | [d1, d2, d3, d4, d5, d6] => { results := [.lit (.bool false)], args := [d1, d2, d3, d4, d5, d6] }
  | _ => none }
def TablesWrongFalsely : Prop := tablesRow.holds Try.pinned (OpenSpec.ofChange tablesWrong)

/-- 'lichenlaw9.TableForms': WHATEVER THE INPUT: true; the input reads as it did. -/
def tableFormsSpec : ChangeSpec := { name := "tableForms", fn := fun _ => fun
  | [d1, d2] => { results := [.lit (.bool true)], args := [d1, d2] }
  | _ => none }
def tableFormsRow : OpenClaim := { program := "ythlcnccniliigaa", sum := "d8f90a6d1915d17c8a2dc4666b9e2562d67e54c2b65615454ac0e047274b1a40", func := "lichen/lichenlaw9.TableForms", spec := "tableForms", unfollowed := true, recurses := true, apart := false }
def TableFormsSaid : Prop := tableFormsRow.holds Try.pinned (OpenSpec.ofChange tableFormsSpec)

/-- ITS FALSE NEIGHBOUR: 'it returns false'. Refute it at one input. -/
def tableFormsWrong : ChangeSpec := { name := "tableForms", fn := fun _ => fun
  | [d1, d2] => { results := [.lit (.bool false)], args := [d1, d2] }
  | _ => none }
def TableFormsWrongFalsely : Prop := tableFormsRow.holds Try.pinned (OpenSpec.ofChange tableFormsWrong)

/-- 'lichenlaw9.TableAddress': WHATEVER THE INPUT: true; the input reads as it did. -/
def tableAddressSpec : ChangeSpec := { name := "tableAddress", fn := fun _ => fun
  | [d1, d2, d3] => { results := [.lit (.bool true)], args := [d1, d2, d3] }
  | _ => none }
def tableAddressRow : OpenClaim := { program := "ythlcnccniliigaa", sum := "d8f90a6d1915d17c8a2dc4666b9e2562d67e54c2b65615454ac0e047274b1a40", func := "lichen/lichenlaw9.TableAddress", spec := "tableAddress", unfollowed := true, recurses := true, apart := false }
def TableAddressSaid : Prop := tableAddressRow.holds Try.pinned (OpenSpec.ofChange tableAddressSpec)

/-- ITS FALSE NEIGHBOUR: 'it returns false'. Refute it at one input. -/
def tableAddressWrong : ChangeSpec := { name := "tableAddress", fn := fun _ => fun
  | [d1, d2, d3] => { results := [.lit (.bool false)], args := [d1, d2, d3] }
  | _ => none }
def TableAddressWrongFalsely : Prop := tableAddressRow.holds Try.pinned (OpenSpec.ofChange tableAddressWrong)

/-- 'lichenlaw9.TableParts': WHATEVER THE INPUT: true; the input reads as it did. -/
def tablePartsSpec : ChangeSpec := { name := "tableParts", fn := fun _ => fun
  | [d1, d2, d3, d4] => { results := [.lit (.bool true)], args := [d1, d2, d3, d4] }
  | _ => none }
def tablePartsRow : OpenClaim := { program := "ythlcnccniliigaa", sum := "d8f90a6d1915d17c8a2dc4666b9e2562d67e54c2b65615454ac0e047274b1a40", func := "lichen/lichenlaw9.TableParts", spec := "tableParts", unfollowed := true, recurses := true, apart := false }
def TablePartsSaid : Prop := tablePartsRow.holds Try.pinned (OpenSpec.ofChange tablePartsSpec)

/-- ITS FALSE NEIGHBOUR: 'it returns false'. Refute it at one input. -/
def tablePartsWrong : ChangeSpec := { name := "tableParts", fn := fun _ => fun
  | [d1, d2, d3, d4] => { results := [.lit (.bool false)], args := [d1, d2, d3, d4] }
  | _ => none }
def TablePartsWrongFalsely : Prop := tablePartsRow.holds Try.pinned (OpenSpec.ofChange tablePartsWrong)

/- THE SECOND FORM. 'bulk': how many values and letters a reading holds, each counted each time it is reached (what is shared counts as often as it is met; a slice's spare places count too). A statement '..UptoSaid' is the law's where the arguments, and the package variables that the reading takes, are together of bulk at most 1048576: NARROWER than '..Said'. Prove '..Said' where nothing that the law and all that it calls make is longer than what came in: it says more and counts as full. Else prove '..UptoSaid'. A law counts once. -/
mutual
def uptoBulk {H : Type} : DataW H → Nat
  | .lit (.string bytes) => bytes.length + 1
  | .lit _ => 1
  | .nil => 1
  | .ptr d => uptoBulk d + 1
  | .slice elems spare => uptoBulkAll elems + uptoBulkAll spare + 1
  | .agg parts => uptoBulkAll parts + 1
  | .iface _ d => uptoBulk d + 1
  | .map entries => uptoBulkEntries entries + 1
  | .held _ => 1
def uptoBulkAll {H : Type} : List (DataW H) → Nat
  | [] => 0
  | d :: r => uptoBulk d + uptoBulkAll r
def uptoBulkEntries {H : Type} : List (Lit × DataW H) → Nat
  | [] => 0
  | x :: r => uptoBulkEntry x + uptoBulkEntries r
def uptoBulkEntry {H : Type} : Lit × DataW H → Nat
  | (.string bytes, d) => bytes.length + uptoBulk d + 1
  | (_, d) => uptoBulk d + 1
 end
def uptoSmall : (H : Type) → List (DataW H) → Bool := fun _ ds => decide (uptoBulkAll ds ≤ 1048576)
def OpenSpec.upto (s : _root_.Go.ChangeSpec) : _root_.Go.OpenSpec := { _root_.Go.OpenSpec.ofChange s with cond := some uptoSmall }

/-- 'lichenlaw0.LichenNames', WHERE WHAT IT READS IS OF BULK AT MOST 1048576: true; the input reads as it did. -/
def lichenNamesUptoRow : OpenClaim := { program := "ythlcnccniliigaa", sum := "d8f90a6d1915d17c8a2dc4666b9e2562d67e54c2b65615454ac0e047274b1a40", func := "lichen/lichenlaw0.LichenNames", spec := "lichenNames", apart := false, narrowed := true }
def LichenNamesUptoSaid : Prop := lichenNamesUptoRow.holds Try.pinned (OpenSpec.upto lichenNamesSpec)

/-- 'lichenlaw5.Stats', WHERE WHAT IT READS IS OF BULK AT MOST 1048576: true; the input reads as it did. -/
def statsUptoRow : OpenClaim := { program := "ythlcnccniliigaa", sum := "d8f90a6d1915d17c8a2dc4666b9e2562d67e54c2b65615454ac0e047274b1a40", func := "lichen/lichenlaw5.Stats", spec := "stats", unfollowed := true, recurses := true, apart := false, narrowed := true }
def StatsUptoSaid : Prop := statsUptoRow.holds Try.pinned (OpenSpec.upto statsSpec)

/-- 'lichenlaw5.StatBits', WHERE WHAT IT READS IS OF BULK AT MOST 1048576: true; the input reads as it did. -/
def statBitsUptoRow : OpenClaim := { program := "ythlcnccniliigaa", sum := "d8f90a6d1915d17c8a2dc4666b9e2562d67e54c2b65615454ac0e047274b1a40", func := "lichen/lichenlaw5.StatBits", spec := "statBits", unfollowed := true, recurses := true, apart := false, narrowed := true }
def StatBitsUptoSaid : Prop := statBitsUptoRow.holds Try.pinned (OpenSpec.upto statBitsSpec)

/-- 'lichenlaw5.StatSectors', WHERE WHAT IT READS IS OF BULK AT MOST 1048576: true; the input reads as it did. -/
def statSectorsUptoRow : OpenClaim := { program := "ythlcnccniliigaa", sum := "d8f90a6d1915d17c8a2dc4666b9e2562d67e54c2b65615454ac0e047274b1a40", func := "lichen/lichenlaw5.StatSectors", spec := "statSectors", unfollowed := true, recurses := true, apart := false, narrowed := true }
def StatSectorsUptoSaid : Prop := statSectorsUptoRow.holds Try.pinned (OpenSpec.upto statSectorsSpec)

/-- 'lichenlaw4.Ops', WHERE WHAT IT READS IS OF BULK AT MOST 1048576: true; the input reads as it did. -/
def opsUptoRow : OpenClaim := { program := "ythlcnccniliigaa", sum := "d8f90a6d1915d17c8a2dc4666b9e2562d67e54c2b65615454ac0e047274b1a40", func := "lichen/lichenlaw4.Ops", spec := "ops", apart := false, narrowed := true }
def OpsUptoSaid : Prop := opsUptoRow.holds Try.pinned (OpenSpec.upto opsSpec)

/-- 'lichenlaw4.OpAll', WHERE WHAT IT READS IS OF BULK AT MOST 1048576: true; the input reads as it did. -/
def opAllUptoRow : OpenClaim := { program := "ythlcnccniliigaa", sum := "d8f90a6d1915d17c8a2dc4666b9e2562d67e54c2b65615454ac0e047274b1a40", func := "lichen/lichenlaw4.OpAll", spec := "opAll", apart := false, narrowed := true }
def OpAllUptoSaid : Prop := opAllUptoRow.holds Try.pinned (OpenSpec.upto opAllSpec)

/-- 'lichenlaw4.OpTable', WHERE WHAT IT READS IS OF BULK AT MOST 1048576: true; the input reads as it did. -/
def opTableUptoRow : OpenClaim := { program := "ythlcnccniliigaa", sum := "d8f90a6d1915d17c8a2dc4666b9e2562d67e54c2b65615454ac0e047274b1a40", func := "lichen/lichenlaw4.OpTable", spec := "opTable", apart := false, narrowed := true }
def OpTableUptoSaid : Prop := opTableUptoRow.holds Try.pinned (OpenSpec.upto opTableSpec)

/-- 'lichenlaw9.Tables', WHERE WHAT IT READS IS OF BULK AT MOST 1048576: true; the input reads as it did. -/
def tablesUptoRow : OpenClaim := { program := "ythlcnccniliigaa", sum := "d8f90a6d1915d17c8a2dc4666b9e2562d67e54c2b65615454ac0e047274b1a40", func := "lichen/lichenlaw9.Tables", spec := "tables", unfollowed := true, recurses := true, apart := false, narrowed := true }
def TablesUptoSaid : Prop := tablesUptoRow.holds Try.pinned (OpenSpec.upto tablesSpec)

/-- 'lichenlaw9.TableForms', WHERE WHAT IT READS IS OF BULK AT MOST 1048576: true; the input reads as it did. -/
def tableFormsUptoRow : OpenClaim := { program := "ythlcnccniliigaa", sum := "d8f90a6d1915d17c8a2dc4666b9e2562d67e54c2b65615454ac0e047274b1a40", func := "lichen/lichenlaw9.TableForms", spec := "tableForms", unfollowed := true, recurses := true, apart := false, narrowed := true }
def TableFormsUptoSaid : Prop := tableFormsUptoRow.holds Try.pinned (OpenSpec.upto tableFormsSpec)

/-- 'lichenlaw9.TableAddress', WHERE WHAT IT READS IS OF BULK AT MOST 1048576: true; the input reads as it did. -/
def tableAddressUptoRow : OpenClaim := { program := "ythlcnccniliigaa", sum := "d8f90a6d1915d17c8a2dc4666b9e2562d67e54c2b65615454ac0e047274b1a40", func := "lichen/lichenlaw9.TableAddress", spec := "tableAddress", unfollowed := true, recurses := true, apart := false, narrowed := true }
def TableAddressUptoSaid : Prop := tableAddressUptoRow.holds Try.pinned (OpenSpec.upto tableAddressSpec)

/-- 'lichenlaw9.TableParts', WHERE WHAT IT READS IS OF BULK AT MOST 1048576: true; the input reads as it did. -/
def tablePartsUptoRow : OpenClaim := { program := "ythlcnccniliigaa", sum := "d8f90a6d1915d17c8a2dc4666b9e2562d67e54c2b65615454ac0e047274b1a40", func := "lichen/lichenlaw9.TableParts", spec := "tableParts", unfollowed := true, recurses := true, apart := false, narrowed := true }
def TablePartsUptoSaid : Prop := tablePartsUptoRow.holds Try.pinned (OpenSpec.upto tablePartsSpec)

end Rows
end Go.Proofs.Ythlcnccniliigaa
