/- The law FnExactRolesText: part of the proof that for every input it returns true. No condition. -/
import Derived.Test.YtpfjdhdmkacnbaaProg
import Derived.Test.YtpfjdhdmkacnbaaChecked
import Derived.KernelRfl
import Derived.Test.YtpfjdhdmkacnbaaV4
import Derived.Shelf.Strconv.Itoa3
import Derived.Shelf.Strings.OnBuilder
namespace Go.Proofs
open Go.Shelf
def Try.laysJoin_ren : Go.Shelf.Ren := ⟨fun | 156 => 17 | 165 => 35 | 166 => 36 | 169 => 37 | 240 => 46 | 241 => 47 | 276 => 52 | 277 => 53 | n => n, fun | 31 => 49 | 9 => 9 | 3 => 3 | 4 => 4 | 0 => 0 | 20 => 20 | 72 => 78 | 76 => 82 | 70 => 75 | 37 => 76 | 75 => 81 | 127 => 96 | 164 => 99 | 5 => 5 | 80 => 84 | n => n, fun | n => n⟩
theorem Try.laysJoin : Go.Proofs.Lays.n156 Try.prog Try.laysJoin_ren := {
  mixed := by kernel_rfl,
  f156 := Try.func17.trans (congrArg some (by kernel_rfl)),
  f165 := Try.func35.trans (congrArg some (by kernel_rfl)),
  f166 := Try.func36.trans (congrArg some (by kernel_rfl)),
  f169 := Try.func37.trans (congrArg some (by kernel_rfl)),
  f240 := Try.func46.trans (congrArg some (by kernel_rfl)),
  f241 := Try.func47.trans (congrArg some (by kernel_rfl)),
  f276 := Try.func52.trans (congrArg some (by kernel_rfl)),
  f277 := Try.func53.trans (congrArg some (by kernel_rfl)),
  t0 := Try.underlying0,
  a0 := Try.isAgg0,
  z0 := Try.sizeOf0,
  v0 := Try.zeroValue0,
  t3 := Try.underlying3,
  a3 := Try.isAgg3,
  z3 := Try.sizeOf3,
  v3 := Try.zeroValue3,
  t4 := Try.underlying4,
  a4 := Try.isAgg4,
  z4 := Try.sizeOf4,
  v4 := Try.zeroValue4,
  t9 := Try.underlying9,
  a9 := Try.isAgg9,
  z9 := Try.sizeOf9,
  v9 := Try.zeroValue9,
  t20 := Try.underlying20,
  a20 := Try.isAgg20,
  z20 := Try.sizeOf20,
  v20 := Try.zeroValue20,
  t31 := Try.underlying49,
  a31 := Try.isAgg49,
  z31 := Try.sizeOf49,
  v31 := Try.zeroValue49,
  t37 := Try.underlying76,
  a37 := Try.isAgg76,
  z37 := Try.sizeOf76,
  v37 := Try.zeroValue76,
  t70 := Try.underlying75,
  a70 := Try.isAgg75,
  z70 := Try.sizeOf75,
  v70 := Try.zeroValue75,
  t72 := Try.underlying78,
  a72 := Try.isAgg78,
  z72 := Try.sizeOf78,
  v72 := Try.zeroValue78,
  t75 := Try.underlying81,
  a75 := Try.isAgg81,
  z75 := Try.sizeOf81,
  v75 := Try.zeroValue81,
  t76 := Try.underlying82,
  a76 := Try.isAgg82,
  z76 := Try.sizeOf82,
  v76 := Try.zeroValue82,
  t127 := Try.underlying96,
  a127 := Try.isAgg96,
  z127 := Try.sizeOf96,
  v127 := Try.zeroValue96,
  t164 := Try.underlying99,
  a164 := Try.isAgg99,
  z164 := Try.sizeOf99,
  v164 := Try.zeroValue99 }
theorem Try.laysX : Builder.Extra Try.prog Try.laysJoin_ren := {
  sizeBuilder := by kernel_rfl,
  liesBuilder := by kernel_rfl,
  t5 := Try.underlying5,
  a5 := Try.isAgg5,
  z5 := Try.sizeOf5,
  v5 := Try.zeroValue5,
  infoByte := by kernel_rfl,
  cellsByte := by kernel_rfl,
  sizeByte := by kernel_rfl,
  neB5 := by decide }
end Go.Proofs
namespace Go.V.W
open Go.Proofs Go.V Go.RowKit
theorem lay_Join0 (a : Option Addr) (c : Nat) (sep : ByteArray) (w : World) : Calls Try.prog 17 #[.slice a 0 c, .string sep] w fun e w' => e = .returned (.string ⟨#[]⟩) ∧ w' = w := Any.strings_Join_none Try.laysJoin Try.laysX a c sep w
theorem lay_Join (bk o c : Nat) (xs : List ByteArray) (sep : ByteArray) (w : World) (hc : ∀ (j : Nat) x, xs[j]? = some x → w.cell? ⟨bk, o + j, none⟩ = some (.string x)) (hb : bk < w.heap.size) (h1 : xs.length ≤ 140737488355328) (h2 : xs.length ≤ c) (h3 : (Lib.join (xs.map (·.data.toList)) sep.data.toList).length ≤ 140737488355328) :
    Calls Try.prog 17 #[.slice (some ⟨bk, o, none⟩) xs.length c, .string sep] w fun e w' => e = .returned (.string ⟨(Lib.join (xs.map (·.data.toList)) sep.data.toList).toArray⟩) ∧ Below w.heap.size w w' := Any.strings_Join Try.laysJoin Try.laysX bk o c xs sep w hc hb h1 h2 h3
end Go.V.W

