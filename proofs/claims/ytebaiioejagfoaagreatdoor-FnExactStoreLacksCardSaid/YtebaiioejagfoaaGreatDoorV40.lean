/- The evaluator S and what it says of functions: Shb, Bw, V7, Tm, Tf, V40. -/
import Derived.Shelf.Strings.Builder1
import Derived.Shelf.Strings.BuilderF
import Derived.Shelf.Strings.BuilderK
import Derived.Shelf.Strconv.Atoi
import Derived.Shelf.LaysM
import Derived.Shelf.Strings.Search1
import Derived.Shelf.Strings.Search2
import Derived.Shelf.Strings.Search3
import Derived.Shelf.Strings.Cut
import Derived.Shelf.Strings.Count
import Derived.Shelf.Strings.Shaped
import Derived.Shelf.Strings.Split
import Derived.Shelf.Strings.SplitShaped
import Derived.Shelf.Strings.RuneCount
import Derived.Shelf.Strings.Explode
import Derived.Test.YtebaiioejagfoaaGreatDoorProg
import Derived.Test.YtebaiioejagfoaaGreatDoorTe
import Derived.WalkKit
import Derived.Test.YtebaiioejagfoaaGreatDoorTa
import Derived.Shelf.Spec.SlicesInsertGrow
import Derived.Test.YtebaiioejagfoaaGreatDoorTg
/-
  DERIVED: THE SHELF's CONTRACTS AT THIS DUMP, IN PLAIN WORDS (tools/lay-plain.mjs out of 'YtebaiioejagfoaaGreatDoorSh0.lean', which tools/lay-shelf.mjs wrote): THE SAME DECLARATIONS UNDER THE SAME NAMES: 'import', 'namespace', 'open', 'def', 'theorem' AND NOTHING ELSE: no command of the shelf's: FOR A HAND-IN. Each laying: the table of numbers ('.._ren') and one theorem, a field a fact of the dump's own or the kernel's comparison; each contract: ONE APPLICATION.
-/
namespace Go.Proofs
open Go.Shelf
def Tryz.lays169_ren : Go.Shelf.Ren := ⟨fun | 169 => 43 | n => n, fun | 70 => 79 | 9 => 9 | 0 => 0 | 72 => 81 | 37 => 22 | 127 => 126 | 3 => 3 | 5 => 5 | n => n, fun | n => n⟩
theorem Tryz.lays169 : Go.Proofs.Lays.n169 Tryz.prog Tryz.lays169_ren := {
  mixed := by kernel_rfl
  f169 := Tryz.func43.trans (congrArg some (by kernel_rfl))
  t0 := Tryz.underlying0
  a0 := Tryz.isAgg0
  z0 := Tryz.sizeOf0
  v0 := Tryz.zeroValue0
  t3 := Tryz.underlying3
  a3 := Tryz.isAgg3
  z3 := Tryz.sizeOf3
  v3 := Tryz.zeroValue3
  t9 := Tryz.underlying9
  a9 := Tryz.isAgg9
  z9 := Tryz.sizeOf9
  v9 := Tryz.zeroValue9
  t37 := Tryz.underlying22
  a37 := Tryz.isAgg22
  z37 := Tryz.sizeOf22
  v37 := Tryz.zeroValue22
  t70 := Tryz.underlying79
  a70 := Tryz.isAgg79
  z70 := Tryz.sizeOf79
  v70 := Tryz.zeroValue79
  t72 := Tryz.underlying81
  a72 := Tryz.isAgg81
  z72 := Tryz.sizeOf81
  v72 := Tryz.zeroValue81
  t127 := Tryz.underlying126
  a127 := Tryz.isAgg126
  z127 := Tryz.sizeOf126
  v127 := Tryz.zeroValue126 }
theorem Tryz.Builder_Extra_169 : Builder.Extra Tryz.prog Tryz.lays169_ren := {
  sizeBuilder := by kernel_rfl
  liesBuilder := by kernel_rfl
  t5 := Tryz.underlying5
  a5 := Tryz.isAgg5
  z5 := Tryz.sizeOf5
  v5 := Tryz.zeroValue5
  infoByte := by kernel_rfl
  cellsByte := by kernel_rfl
  sizeByte := by kernel_rfl
  neB5 := by decide }
open Go.RowKit in
theorem Tryz.Builder_String_k (B b : Nat) (l : List UInt8) (w : World) (h : Lib.IsBuilderF 81 5 B b (Lib.byteCells l) w) (h0 : l ≠ []) :
    Calls Tryz.prog 43 #[.pointer (some ⟨b, 0, none⟩)] w fun e w' => e = .returned (.string ⟨l.toArray⟩) ∧ (Lib.IsBuilderF 81 5 B b (Lib.byteCells l) w' ∧ Below B w w' ∧ Lib.OthersKept 5 (some b) w w') := Any.Builder_String_k Tryz.lays169 Tryz.Builder_Extra_169 B b l w h h0
open Go.RowKit in
theorem Tryz.Builder_String_empty_k (B b : Nat) (w : World) (h : Lib.IsBuilderF 81 5 B b [] w) (hBw : B ≤ w.heap.size) :
    Calls Tryz.prog 43 #[.pointer (some ⟨b, 0, none⟩)] w fun e w' => e = .returned (.string ⟨#[]⟩) ∧ (Lib.IsBuilderF 81 5 B b [] w' ∧ Below B w w' ∧ Lib.OthersKept 5 (some b) w w') := Any.Builder_String_empty_k Tryz.lays169 Tryz.Builder_Extra_169 B b w h hBw
open Go.RowKit in
theorem Tryz.Builder_String_any_k (B b : Nat) (l : List UInt8) (w : World) (h : Lib.IsBuilderF 81 5 B b (Lib.byteCells l) w) (hBw : B ≤ w.heap.size) :
    Calls Tryz.prog 43 #[.pointer (some ⟨b, 0, none⟩)] w fun e w' => e = .returned (.string ⟨l.toArray⟩) ∧ (Lib.IsBuilderF 81 5 B b (Lib.byteCells l) w' ∧ Below B w w' ∧ Lib.OthersKept 5 (some b) w w') := Any.Builder_String_any_k Tryz.lays169 Tryz.Builder_Extra_169 B b l w h hBw
def Tryz.lays172_ren : Go.Shelf.Ren := ⟨fun | 172 => 79 | 244 => 107 | 245 => 108 | 247 => 124 | 279 => 125 | 280 => 126 | 281 => 127 | 282 => 128 | 287 => 140 | 316 => 141 | 171 => 42 | 205 => 142 | 321 => 151 | 322 => 152 | 243 => 82 | 246 => 110 | 283 => 129 | 284 => 130 | 285 => 131 | 286 => 132 | 129 => 144 | 317 => 143 | 318 => 145 | 319 => 146 | 320 => 147 | 337 => 153 | 338 => 154 | n => n, fun | 9 => 9 | 3 => 3 | 75 => 83 | 76 => 84 | 4 => 4 | 5 => 5 | 167 => 162 | 37 => 22 | 0 => 0 | 85 => 163 | 2 => 2 | 168 => 165 | 53 => 169 | 175 => 178 | 46 => 177 | 210 => 182 | 127 => 126 | 145 => 195 | 143 => 193 | 21 => 21 | 171 => 168 | 173 => 172 | 212 => 185 | 51 => 186 | 20 => 20 | 213 => 187 | 232 => 201 | 233 => 202 | 80 => 92 | n => n, fun | 15 => 1 | 16 => 2 | 17 => 3 | 18 => 6 | 19 => 7 | n => n⟩
theorem Tryz.lays172 : Go.Proofs.Lays.n172 Tryz.prog Tryz.lays172_ren := {
  mixed := by kernel_rfl
  f129 := Tryz.func144.trans (congrArg some (by kernel_rfl))
  f171 := Tryz.func42.trans (congrArg some (by kernel_rfl))
  f172 := Tryz.func79.trans (congrArg some (by kernel_rfl))
  f205 := Tryz.func142.trans (congrArg some (by kernel_rfl))
  f243 := Tryz.func82.trans (congrArg some (by kernel_rfl))
  f244 := Tryz.func107.trans (congrArg some (by kernel_rfl))
  f245 := Tryz.func108.trans (congrArg some (by kernel_rfl))
  f246 := Tryz.func110.trans (congrArg some (by kernel_rfl))
  f247 := Tryz.func124.trans (congrArg some (by kernel_rfl))
  f279 := Tryz.func125.trans (congrArg some (by kernel_rfl))
  f280 := Tryz.func126.trans (congrArg some (by kernel_rfl))
  f281 := Tryz.func127.trans (congrArg some (by kernel_rfl))
  f282 := Tryz.func128.trans (congrArg some (by kernel_rfl))
  f283 := Tryz.func129.trans (congrArg some (by kernel_rfl))
  f284 := Tryz.func130.trans (congrArg some (by kernel_rfl))
  f285 := Tryz.func131.trans (congrArg some (by kernel_rfl))
  f286 := Tryz.func132.trans (congrArg some (by kernel_rfl))
  f287 := Tryz.func140.trans (congrArg some (by kernel_rfl))
  f316 := Tryz.func141.trans (congrArg some (by kernel_rfl))
  f317 := Tryz.func143.trans (congrArg some (by kernel_rfl))
  f318 := Tryz.func145.trans (congrArg some (by kernel_rfl))
  f319 := Tryz.func146.trans (congrArg some (by kernel_rfl))
  f320 := Tryz.func147.trans (congrArg some (by kernel_rfl))
  f321 := Tryz.func151.trans (congrArg some (by kernel_rfl))
  f322 := Tryz.func152.trans (congrArg some (by kernel_rfl))
  f337 := Tryz.func153.trans (congrArg some (by kernel_rfl))
  f338 := Tryz.func154.trans (congrArg some (by kernel_rfl))
  t0 := Tryz.underlying0
  a0 := Tryz.isAgg0
  z0 := Tryz.sizeOf0
  v0 := Tryz.zeroValue0
  t2 := Tryz.underlying2
  a2 := Tryz.isAgg2
  z2 := Tryz.sizeOf2
  v2 := Tryz.zeroValue2
  t3 := Tryz.underlying3
  a3 := Tryz.isAgg3
  z3 := Tryz.sizeOf3
  v3 := Tryz.zeroValue3
  t4 := Tryz.underlying4
  a4 := Tryz.isAgg4
  z4 := Tryz.sizeOf4
  v4 := Tryz.zeroValue4
  t5 := Tryz.underlying5
  a5 := Tryz.isAgg5
  z5 := Tryz.sizeOf5
  v5 := Tryz.zeroValue5
  t9 := Tryz.underlying9
  a9 := Tryz.isAgg9
  z9 := Tryz.sizeOf9
  v9 := Tryz.zeroValue9
  t20 := Tryz.underlying20
  a20 := Tryz.isAgg20
  z20 := Tryz.sizeOf20
  v20 := Tryz.zeroValue20
  t21 := Tryz.underlying21
  a21 := Tryz.isAgg21
  z21 := Tryz.sizeOf21
  v21 := Tryz.zeroValue21
  t37 := Tryz.underlying22
  a37 := Tryz.isAgg22
  z37 := Tryz.sizeOf22
  v37 := Tryz.zeroValue22
  t46 := Tryz.underlying177
  a46 := Tryz.isAgg177
  z46 := Tryz.sizeOf177
  v46 := Tryz.zeroValue177
  t51 := Tryz.underlying186
  a51 := Tryz.isAgg186
  z51 := Tryz.sizeOf186
  v51 := Tryz.zeroValue186
  t53 := Tryz.underlying169
  a53 := Tryz.isAgg169
  z53 := Tryz.sizeOf169
  v53 := Tryz.zeroValue169
  t75 := Tryz.underlying83
  a75 := Tryz.isAgg83
  z75 := Tryz.sizeOf83
  v75 := Tryz.zeroValue83
  t76 := Tryz.underlying84
  a76 := Tryz.isAgg84
  z76 := Tryz.sizeOf84
  v76 := Tryz.zeroValue84
  t85 := Tryz.underlying163
  a85 := Tryz.isAgg163
  z85 := Tryz.sizeOf163
  v85 := Tryz.zeroValue163
  t127 := Tryz.underlying126
  a127 := Tryz.isAgg126
  z127 := Tryz.sizeOf126
  v127 := Tryz.zeroValue126
  t143 := Tryz.underlying193
  a143 := Tryz.isAgg193
  z143 := Tryz.sizeOf193
  v143 := Tryz.zeroValue193
  t145 := Tryz.underlying195
  a145 := Tryz.isAgg195
  z145 := Tryz.sizeOf195
  v145 := Tryz.zeroValue195
  t167 := Tryz.underlying162
  a167 := Tryz.isAgg162
  z167 := Tryz.sizeOf162
  v167 := Tryz.zeroValue162
  t168 := Tryz.underlying165
  a168 := Tryz.isAgg165
  z168 := Tryz.sizeOf165
  v168 := Tryz.zeroValue165
  t171 := Tryz.underlying168
  a171 := Tryz.isAgg168
  z171 := Tryz.sizeOf168
  v171 := Tryz.zeroValue168
  t173 := Tryz.underlying172
  a173 := Tryz.isAgg172
  z173 := Tryz.sizeOf172
  v173 := Tryz.zeroValue172
  t175 := Tryz.underlying178
  a175 := Tryz.isAgg178
  z175 := Tryz.sizeOf178
  v175 := Tryz.zeroValue178
  t210 := Tryz.underlying182
  a210 := Tryz.isAgg182
  z210 := Tryz.sizeOf182
  v210 := Tryz.zeroValue182
  t212 := Tryz.underlying185
  a212 := Tryz.isAgg185
  z212 := Tryz.sizeOf185
  v212 := Tryz.zeroValue185
  t213 := Tryz.underlying187
  a213 := Tryz.isAgg187
  z213 := Tryz.sizeOf187
  t232 := Tryz.underlying201
  a232 := Tryz.isAgg201
  z232 := Tryz.sizeOf201
  v232 := Tryz.zeroValue201
  t233 := Tryz.underlying202
  a233 := Tryz.isAgg202
  z233 := Tryz.sizeOf202
  v233 := Tryz.zeroValue202
  g15 := by kernel_rfl
  g16 := by kernel_rfl
  g17 := by kernel_rfl
  g18 := by kernel_rfl
  g19 := by kernel_rfl }
open Go.RowKit in
theorem Tryz.strconv_Atoi (s : ByteArray) (n : Int) (hl : s.size ≤ 18) (h : Lib.atoi s.data.toList = some n) (w : World) :
    Calls Tryz.prog 79 #[.string s] w fun e w' => e = .returned (.tuple #[.int .i64 n, .nilIface]) ∧ ∃ t, w' = Lib.bytesWorld w 5 t := Any.strconv_Atoi Tryz.lays172 s n hl h w
def Tryz.lays145_ren : Go.Shelf.Ren := ⟨fun | 145 => 78 | 220 => 106 | 219 => 123 | 217 => 136 | 225 => 137 | 224 => 138 | 267 => 139 | 266 => 149 | 314 => 150 | n => n, fun | 9 => 9 | 4 => 4 | 59 => 123 | 3 => 3 | 5 => 5 | 46 => 177 | 146 => 189 | 51 => 186 | n => n, fun | 1 => 0 | n => n⟩
theorem Tryz.lays145 : Go.Proofs.Lays.n145 Tryz.prog Tryz.lays145_ren := {
  mixed := by kernel_rfl
  f145 := Tryz.func78.trans (congrArg some (by kernel_rfl))
  f217 := Tryz.func136.trans (congrArg some (by kernel_rfl))
  f219 := Tryz.func123.trans (congrArg some (by kernel_rfl))
  f220 := Tryz.func106.trans (congrArg some (by kernel_rfl))
  f224 := Tryz.func138.trans (congrArg some (by kernel_rfl))
  f225 := Tryz.func137.trans (congrArg some (by kernel_rfl))
  f266 := Tryz.func149.trans (congrArg some (by kernel_rfl))
  f267 := Tryz.func139.trans (congrArg some (by kernel_rfl))
  f314 := Tryz.func150.trans (congrArg some (by kernel_rfl))
  t3 := Tryz.underlying3
  a3 := Tryz.isAgg3
  z3 := Tryz.sizeOf3
  v3 := Tryz.zeroValue3
  t4 := Tryz.underlying4
  a4 := Tryz.isAgg4
  z4 := Tryz.sizeOf4
  v4 := Tryz.zeroValue4
  t5 := Tryz.underlying5
  a5 := Tryz.isAgg5
  z5 := Tryz.sizeOf5
  v5 := Tryz.zeroValue5
  t9 := Tryz.underlying9
  a9 := Tryz.isAgg9
  z9 := Tryz.sizeOf9
  v9 := Tryz.zeroValue9
  t46 := Tryz.underlying177
  a46 := Tryz.isAgg177
  z46 := Tryz.sizeOf177
  v46 := Tryz.zeroValue177
  t51 := Tryz.underlying186
  a51 := Tryz.isAgg186
  z51 := Tryz.sizeOf186
  v51 := Tryz.zeroValue186
  t59 := Tryz.underlying123
  a59 := Tryz.isAgg123
  z59 := Tryz.sizeOf123
  v59 := Tryz.zeroValue123
  t146 := Tryz.underlying189
  a146 := Tryz.isAgg189
  z146 := Tryz.sizeOf189
  v146 := Tryz.zeroValue189
  g1 := by kernel_rfl }
open Go.RowKit Go.Lib in
theorem Tryz.strings_Cut (s sep : ByteArray) (m : Int) (w : World) (hs : s.size < 4294967281) (hm : w.cell? ⟨0, 0, none⟩ = some (.int .i64 m)) :
    Calls Tryz.prog 78 #[.string s, .string sep] w fun e w' => e = .returned (.tuple #[.string ⟨(Lib.cut s.data.toList sep.data.toList).1.toArray⟩, .string ⟨(Lib.cut s.data.toList sep.data.toList).2.1.toArray⟩, .bool (Lib.cut s.data.toList sep.data.toList).2.2]) ∧ ∃ n, w' = w.drewN n := Any.strings_Cut Tryz.lays145 s sep m w hs hm
def Tryz.laysM145_ren : Go.Shelf.Ren := ⟨fun | 145 => 78 | 220 => 106 | 219 => 123 | 217 => 136 | 225 => 137 | 224 => 138 | 267 => 139 | 266 => 149 | 314 => 150 | n => n, fun | 9 => 9 | 4 => 4 | 59 => 123 | 3 => 3 | 5 => 5 | 46 => 177 | 146 => 189 | 51 => 186 | n => n, fun | 1 => 0 | n => n⟩
theorem Tryz.laysM145 : Go.Proofs.LaysM.n145 Tryz.prog Tryz.laysM145_ren := {
  mixed := by kernel_rfl
  f145 := Tryz.func78.trans (congrArg some (by kernel_rfl))
  f217 := Tryz.func136.trans (congrArg some (by kernel_rfl))
  f219 := Tryz.func123.trans (congrArg some (by kernel_rfl))
  f220 := Tryz.func106.trans (congrArg some (by kernel_rfl))
  f224 := Tryz.func138.trans (congrArg some (by kernel_rfl))
  f225 := Tryz.func137.trans (congrArg some (by kernel_rfl))
  f266 := Tryz.func149.trans (congrArg some (by kernel_rfl))
  f267 := Tryz.func139.trans (congrArg some (by kernel_rfl))
  f314 := Tryz.func150.trans (congrArg some (by kernel_rfl))
  t3 := Tryz.underlying3
  a3 := Tryz.isAgg3
  z3 := Tryz.sizeOf3
  v3 := Tryz.zeroValue3
  t4 := Tryz.underlying4
  a4 := Tryz.isAgg4
  z4 := Tryz.sizeOf4
  v4 := Tryz.zeroValue4
  t5 := Tryz.underlying5
  a5 := Tryz.isAgg5
  z5 := Tryz.sizeOf5
  v5 := Tryz.zeroValue5
  t9 := Tryz.underlying9
  a9 := Tryz.isAgg9
  z9 := Tryz.sizeOf9
  v9 := Tryz.zeroValue9
  t46 := Tryz.underlying177
  a46 := Tryz.isAgg177
  z46 := Tryz.sizeOf177
  v46 := Tryz.zeroValue177
  t51 := Tryz.underlying186
  a51 := Tryz.isAgg186
  z51 := Tryz.sizeOf186
  v51 := Tryz.zeroValue186
  t59 := Tryz.underlying123
  a59 := Tryz.isAgg123
  z59 := Tryz.sizeOf123
  v59 := Tryz.zeroValue123
  t146 := Tryz.underlying189
  a146 := Tryz.isAgg189
  z146 := Tryz.sizeOf189
  v146 := Tryz.zeroValue189
  g1 := by kernel_rfl
  i3 := by kernel_rfl
  i4 := by kernel_rfl
  i5 := by kernel_rfl
  i9 := by kernel_rfl
  i46 := by kernel_rfl
  i51 := by kernel_rfl
  i59 := by kernel_rfl
  i146 := by kernel_rfl
  m1 := by kernel_rfl
  s1_3 := fun w h => Go.Proofs.cell_of_shapedOpen_int (zero := #[.int .i64 0]) (t := 3) h (of_decide_eq_true (by kernel_rfl)) (by kernel_rfl) rfl (by kernel_rfl) (by kernel_rfl) Tryz.underlying3 }
def Tryz.lays146_ren : Go.Shelf.Ren := ⟨fun | 146 => 76 | 221 => 105 | 268 => 120 | 138 => 121 | 143 => 122 | 195 => 133 | 197 => 134 | 218 => 135 | 219 => 123 | 260 => 148 | 217 => 136 | 225 => 137 | 224 => 138 | 267 => 139 | 266 => 149 | 314 => 150 | n => n, fun | 9 => 9 | 31 => 119 | 3 => 3 | 4 => 4 | 0 => 0 | 105 => 174 | 21 => 21 | 5 => 5 | 46 => 177 | 119 => 197 | 139 => 200 | 138 => 199 | 146 => 189 | 51 => 186 | n => n, fun | 1 => 0 | 3 => 4 | 4 => 5 | n => n⟩
theorem Tryz.lays146 : Go.Proofs.Lays.n146 Tryz.prog Tryz.lays146_ren := {
  mixed := by kernel_rfl
  f138 := Tryz.func121.trans (congrArg some (by kernel_rfl))
  f143 := Tryz.func122.trans (congrArg some (by kernel_rfl))
  f146 := Tryz.func76.trans (congrArg some (by kernel_rfl))
  f195 := Tryz.func133.trans (congrArg some (by kernel_rfl))
  f197 := Tryz.func134.trans (congrArg some (by kernel_rfl))
  f217 := Tryz.func136.trans (congrArg some (by kernel_rfl))
  f218 := Tryz.func135.trans (congrArg some (by kernel_rfl))
  f219 := Tryz.func123.trans (congrArg some (by kernel_rfl))
  f221 := Tryz.func105.trans (congrArg some (by kernel_rfl))
  f224 := Tryz.func138.trans (congrArg some (by kernel_rfl))
  f225 := Tryz.func137.trans (congrArg some (by kernel_rfl))
  f260 := Tryz.func148.trans (congrArg some (by kernel_rfl))
  f266 := Tryz.func149.trans (congrArg some (by kernel_rfl))
  f267 := Tryz.func139.trans (congrArg some (by kernel_rfl))
  f268 := Tryz.func120.trans (congrArg some (by kernel_rfl))
  f314 := Tryz.func150.trans (congrArg some (by kernel_rfl))
  t0 := Tryz.underlying0
  a0 := Tryz.isAgg0
  z0 := Tryz.sizeOf0
  v0 := Tryz.zeroValue0
  t3 := Tryz.underlying3
  a3 := Tryz.isAgg3
  z3 := Tryz.sizeOf3
  v3 := Tryz.zeroValue3
  t4 := Tryz.underlying4
  a4 := Tryz.isAgg4
  z4 := Tryz.sizeOf4
  v4 := Tryz.zeroValue4
  t5 := Tryz.underlying5
  a5 := Tryz.isAgg5
  z5 := Tryz.sizeOf5
  v5 := Tryz.zeroValue5
  t9 := Tryz.underlying9
  a9 := Tryz.isAgg9
  z9 := Tryz.sizeOf9
  v9 := Tryz.zeroValue9
  t21 := Tryz.underlying21
  a21 := Tryz.isAgg21
  z21 := Tryz.sizeOf21
  v21 := Tryz.zeroValue21
  t31 := Tryz.underlying119
  a31 := Tryz.isAgg119
  z31 := Tryz.sizeOf119
  v31 := Tryz.zeroValue119
  t46 := Tryz.underlying177
  a46 := Tryz.isAgg177
  z46 := Tryz.sizeOf177
  v46 := Tryz.zeroValue177
  t51 := Tryz.underlying186
  a51 := Tryz.isAgg186
  z51 := Tryz.sizeOf186
  v51 := Tryz.zeroValue186
  t105 := Tryz.underlying174
  a105 := Tryz.isAgg174
  z105 := Tryz.sizeOf174
  v105 := Tryz.zeroValue174
  t119 := Tryz.underlying197
  a119 := Tryz.isAgg197
  z119 := Tryz.sizeOf197
  t138 := Tryz.underlying199
  a138 := Tryz.isAgg199
  z138 := Tryz.sizeOf199
  v138 := Tryz.zeroValue199
  t139 := Tryz.underlying200
  a139 := Tryz.isAgg200
  z139 := Tryz.sizeOf200
  v139 := Tryz.zeroValue200
  t146 := Tryz.underlying189
  a146 := Tryz.isAgg189
  z146 := Tryz.sizeOf189
  v146 := Tryz.zeroValue189
  g1 := by kernel_rfl
  g3 := by kernel_rfl
  g4 := by kernel_rfl }
open Go.RowKit Go.Lib in
theorem Tryz.strings_Split (s sep : ByteArray) (m : Int) (w : World) (hs : s.size < 4294967281) (hm : w.cell? ⟨0, 0, none⟩ = some (.int .i64 m)) (h1 : 1 ≤ sep.size) :
    Calls Tryz.prog 76 #[.string s, .string sep] w fun e w' =>
      e = .returned (.slice (some ⟨w.heap.size, 0, none⟩) (Lib.countB s sep + 1) (Lib.countB s sep + 1)) ∧ w' = w.alloc (.cells ((Lib.splitB sep 0 (Lib.countB s sep) s).map Value.string).toArray 9) := Any.strings_Split Tryz.lays146 (by kernel_rfl) s sep m w hs hm h1
def Tryz.laysM146_ren : Go.Shelf.Ren := ⟨fun | 146 => 76 | 221 => 105 | 268 => 120 | 138 => 121 | 143 => 122 | 195 => 133 | 197 => 134 | 218 => 135 | 219 => 123 | 260 => 148 | 217 => 136 | 225 => 137 | 224 => 138 | 267 => 139 | 266 => 149 | 314 => 150 | n => n, fun | 9 => 9 | 31 => 119 | 3 => 3 | 4 => 4 | 0 => 0 | 105 => 174 | 21 => 21 | 5 => 5 | 46 => 177 | 119 => 197 | 139 => 200 | 138 => 199 | 146 => 189 | 51 => 186 | n => n, fun | 1 => 0 | 3 => 4 | 4 => 5 | n => n⟩
theorem Tryz.laysM146 : Go.Proofs.LaysM.n146 Tryz.prog Tryz.laysM146_ren := {
  mixed := by kernel_rfl
  f138 := Tryz.func121.trans (congrArg some (by kernel_rfl))
  f143 := Tryz.func122.trans (congrArg some (by kernel_rfl))
  f146 := Tryz.func76.trans (congrArg some (by kernel_rfl))
  f195 := Tryz.func133.trans (congrArg some (by kernel_rfl))
  f197 := Tryz.func134.trans (congrArg some (by kernel_rfl))
  f217 := Tryz.func136.trans (congrArg some (by kernel_rfl))
  f218 := Tryz.func135.trans (congrArg some (by kernel_rfl))
  f219 := Tryz.func123.trans (congrArg some (by kernel_rfl))
  f221 := Tryz.func105.trans (congrArg some (by kernel_rfl))
  f224 := Tryz.func138.trans (congrArg some (by kernel_rfl))
  f225 := Tryz.func137.trans (congrArg some (by kernel_rfl))
  f260 := Tryz.func148.trans (congrArg some (by kernel_rfl))
  f266 := Tryz.func149.trans (congrArg some (by kernel_rfl))
  f267 := Tryz.func139.trans (congrArg some (by kernel_rfl))
  f268 := Tryz.func120.trans (congrArg some (by kernel_rfl))
  f314 := Tryz.func150.trans (congrArg some (by kernel_rfl))
  t0 := Tryz.underlying0
  a0 := Tryz.isAgg0
  z0 := Tryz.sizeOf0
  v0 := Tryz.zeroValue0
  t3 := Tryz.underlying3
  a3 := Tryz.isAgg3
  z3 := Tryz.sizeOf3
  v3 := Tryz.zeroValue3
  t4 := Tryz.underlying4
  a4 := Tryz.isAgg4
  z4 := Tryz.sizeOf4
  v4 := Tryz.zeroValue4
  t5 := Tryz.underlying5
  a5 := Tryz.isAgg5
  z5 := Tryz.sizeOf5
  v5 := Tryz.zeroValue5
  t9 := Tryz.underlying9
  a9 := Tryz.isAgg9
  z9 := Tryz.sizeOf9
  v9 := Tryz.zeroValue9
  t21 := Tryz.underlying21
  a21 := Tryz.isAgg21
  z21 := Tryz.sizeOf21
  v21 := Tryz.zeroValue21
  t31 := Tryz.underlying119
  a31 := Tryz.isAgg119
  z31 := Tryz.sizeOf119
  v31 := Tryz.zeroValue119
  t46 := Tryz.underlying177
  a46 := Tryz.isAgg177
  z46 := Tryz.sizeOf177
  v46 := Tryz.zeroValue177
  t51 := Tryz.underlying186
  a51 := Tryz.isAgg186
  z51 := Tryz.sizeOf186
  v51 := Tryz.zeroValue186
  t105 := Tryz.underlying174
  a105 := Tryz.isAgg174
  z105 := Tryz.sizeOf174
  v105 := Tryz.zeroValue174
  t119 := Tryz.underlying197
  a119 := Tryz.isAgg197
  z119 := Tryz.sizeOf197
  t138 := Tryz.underlying199
  a138 := Tryz.isAgg199
  z138 := Tryz.sizeOf199
  v138 := Tryz.zeroValue199
  t139 := Tryz.underlying200
  a139 := Tryz.isAgg200
  z139 := Tryz.sizeOf200
  v139 := Tryz.zeroValue200
  t146 := Tryz.underlying189
  a146 := Tryz.isAgg189
  z146 := Tryz.sizeOf189
  v146 := Tryz.zeroValue189
  g1 := by kernel_rfl
  g3 := by kernel_rfl
  g4 := by kernel_rfl
  i0 := by kernel_rfl
  i3 := by kernel_rfl
  i4 := by kernel_rfl
  i5 := by kernel_rfl
  i9 := by kernel_rfl
  i21 := by kernel_rfl
  i31 := by kernel_rfl
  i46 := by kernel_rfl
  i51 := by kernel_rfl
  i105 := by kernel_rfl
  i138 := by kernel_rfl
  i139 := by kernel_rfl
  i146 := by kernel_rfl
  m1 := by kernel_rfl
  s1_3 := fun w h => Go.Proofs.cell_of_shapedOpen_int (zero := #[.int .i64 0]) (t := 3) h (of_decide_eq_true (by kernel_rfl)) (by kernel_rfl) rfl (by kernel_rfl) (by kernel_rfl) Tryz.underlying3
  m3 := by kernel_rfl
  m4 := by kernel_rfl }
open Go.RowKit Go.Lib in
theorem Tryz.strings_Split_shaped (s sep : ByteArray) (w : World) (h : w.ShapedOpen Tryz.prog) (hs : s.size < 4294967281) (h1 : 1 ≤ sep.size) :
    Calls Tryz.prog 76 #[.string s, .string sep] w fun e w' =>
      e = .returned (.slice (some ⟨w.heap.size, 0, none⟩) (Lib.countB s sep + 1) (Lib.countB s sep + 1)) ∧ w' = w.alloc (.cells ((Lib.splitB sep 0 (Lib.countB s sep) s).map Value.string).toArray 9) := Any.strings_Split_shaped Tryz.laysM146 s sep w h hs h1
end Go.Proofs

/- strings.Builder: what its writers leave, at this dump. -/
set_option linter.unusedVariables false
set_option linter.unusedSimpArgs false
namespace Go.Proofs.YtebaiioejagfoaaGreatDoor
open Go Go.Shelf Go.RowKit Go.Lib Go.Proofs
set_option maxHeartbeats 4000000
set_option maxRecDepth 100000
theorem bd_size : ∃ j, Tryz.prog.info? 81 = some j ∧ j.size = 2 := Option.map_eq_some_iff.1 (show Option.map (fun x => x.size) (Tryz.prog.info? 81) = some 2 by kernel_rfl)
theorem bd_byte : ∃ i, Tryz.prog.info? 5 = some i ∧ i.zero = some (.int .u8 0) ∧ i.size = 1 ∧ i.bytes = 1 := by
  obtain ⟨i, hi, e⟩ := Option.map_eq_some_iff.1 (show Option.map (fun i => (i.zero, i.size, i.bytes)) (Tryz.prog.info? 5) = some (some (.int .u8 0), 1, 1) by kernel_rfl)
  simp only [Prod.mk.injEq] at e
  exact ⟨i, hi, e.1, e.2.1, e.2.2⟩
theorem cc_used (b : Nat) (w : World) (h0 : w.cell? ⟨b, 0, none⟩ = some (.pointer (some ⟨b, 0, none⟩))) :
    Calls Tryz.prog 81 #[.pointer (some ⟨b, 0, none⟩)] w fun e w' => e = .returned (.tuple #[]) ∧ w' = w := by
  obtain ⟨j, hj, -⟩ := bd_size
  have mixed : Tryz.prog.follows .mixedOrders = true := by kernel_rfl
  go_enter Tryz.func81, Tryz.ntmps81
  go_wp2
  rw [Lib.run_neq_ptr_same w _ Tryz.underlying79 hj]
  go_wp2
  go_end0
  exact ⟨rfl, rfl⟩
theorem cc_fresh (b : Nat) (w : World) (h0 : w.cell? ⟨b, 0, none⟩ = some (.pointer none)) (hsh : w.shape? b = some (81, 2)) (hfz : w.frozen? ⟨b, 0, none⟩ = false) :
    Calls Tryz.prog 81 #[.pointer (some ⟨b, 0, none⟩)] w fun e w' => e = .returned (.tuple #[]) ∧ w' = w.setCell ⟨b, 0, none⟩ (.pointer (some ⟨b, 0, none⟩)) := by
  obtain ⟨j, hj, hjs⟩ := bd_size
  have mixed : Tryz.prog.follows .mixedOrders = true := by kernel_rfl
  go_enter Tryz.func81, Tryz.ntmps81
  go_wp2
  rw [Lib.run_to_unsafe w ⟨b, 0, none⟩ Tryz.underlying79 Tryz.underlying148 hj (by rw [hjs]; decide) hsh (Nat.zero_lt_succ 1)]
  simp only [Result.andThen]
  rw [Oper.upon_value]
  go_wp2
  rw [run_callFunc_extern Tryz.func109 (by kernel_rfl) (by kernel_rfl) (by kernel_rfl) (e := Extern.AbiNoEscape.same) (by kernel_rfl)]
  rw [Lib.run_noEscape]
  simp only [Result.andThen]
  rw [Oper.upon_value]
  go_wp2
  rw [Lib.run_from_unsafe w ⟨b, 0, none⟩ Tryz.underlying148 Tryz.underlying79 hj hsh (by kernel_rfl)]
  simp only [Result.andThen]
  rw [Oper.upon_value]
  go_wp2
  go_end0
  exact ⟨rfl, rfl⟩
theorem cc_k (B b : Nat) (bs : List Value) (w : World) (h : Lib.IsBuilderF 81 5 B b bs w) :
    Calls Tryz.prog 81 #[.pointer (some ⟨b, 0, none⟩)] w fun e w' => e = .returned (.tuple #[]) ∧ (Lib.BuilderAtF 81 5 B b (.pointer (some ⟨b, 0, none⟩)) bs w' ∧ Below B w w') := by
  rcases h with h | h
  · refine (cc_fresh b w h.cell0 h.shape h.frozen0).mono ?_
    rintro e w' ⟨rfl, rfl⟩
    exact ⟨rfl, h.used _, (Below.refl B w).setCell (p := ⟨b, 0, none⟩) h.1 _⟩
  · refine (cc_used b w h.cell0).mono ?_
    rintro e w' ⟨rfl, rfl⟩
    exact ⟨rfl, h, Below.refl B _⟩
theorem ws_k (B b : Nat) (bs : List Value) (s : ByteArray) (w : World) (h : Lib.IsBuilderF 81 5 B b bs w) (hlen : bs.length + s.size ≤ 140737488355328) (hBw : B ≤ w.heap.size) :
    Calls Tryz.prog 40 #[.pointer (some ⟨b, 0, none⟩), .string s] w fun e w' => e = .returned (.tuple #[.int .i64 s.size, .nilIface]) ∧ (Lib.IsBuilderF 81 5 B b (bs ++ Lib.strCells s) w' ∧ Below B w w') := by
  obtain ⟨i0, hi, hz0, hz1, hz2⟩ := bd_byte
  have mixed : Tryz.prog.follows .mixedOrders = true := by kernel_rfl
  go_enter Tryz.func40, Tryz.ntmps40
  go_wp2_with (go_at_call 81; refine (cc_k B b bs _ h).mono ?_)
  rintro e w1 ⟨rfl, h1, hb1⟩
  obtain ⟨hB, v, hbk, hown, hne⟩ := h1
  have c0 : w1.cell? ⟨b, 0, none⟩ = some (.pointer (some ⟨b, 0, none⟩)) := by rw [Lib.cell_of_heap hbk]; rfl
  have c1 : w1.cell? ⟨b, 1, none⟩ = some v := by rw [Lib.cell_of_heap hbk]; rfl
  go_wp2_with (at_builtin; refine Lib.wpList_append_own_stringF _ rfl _ _ 22 9 rfl B 5 i0 Tryz.underlying22 Tryz.underlying9 hi hz0 hz1 hz2 _ _ _ rfl hown s rfl ?c3 ?c4 ?c5 ?_)
  case c3 => unfold maxLen; omega
  case c4 => omega
  case c5 => have := hb1.size; omega
  intro v' w2 hown' hgrow _
  have hlt : b < w1.heap.size := by
    rcases Nat.lt_or_ge b w1.heap.size with h' | h'
    · exact h'
    · simp [Array.getElem?_eq_none h'] at hbk
  have hb2 : w2.heap[b]? = some (.cells #[.pointer (some ⟨b, 0, none⟩), v] 81 (0, 0)) := by
    rw [hgrow.block b hlt (fun e => hne e.symm)]
    exact hbk
  have d0 : w2.cell? ⟨b, 0, none⟩ = some (.pointer (some ⟨b, 0, none⟩)) := by rw [Lib.cell_of_heap hb2]; rfl
  have d1 : w2.cell? ⟨b, 1, none⟩ = some v := by rw [Lib.cell_of_heap hb2]; rfl
  have f1 : w2.frozen? ⟨b, 1, none⟩ = false := Lib.frozen_of_heap hb2 1
  obtain ⟨ao, n', cap, rfl⟩ : ∃ ao n' cap, v' = .slice ao n' cap := by
    rcases hown'.2 with ⟨hv, _⟩ | ⟨g, cap, cur, fz, hv, _⟩
    · exact ⟨_, _, _, hv⟩
    · exact ⟨_, _, _, hv⟩
  go_wp2
  go_ret2
  refine ⟨rfl, .inr ?_, ?_⟩
  · exact Lib.BuilderAtF.put (T := 81) (e := 5) hB hb2 (bs' := bs ++ Lib.strCells s) (by simpa [Lib.strCells_length] using hown') (by decide)
  · exact (hb1.grown hgrow (by have := hb1.size; omega) (fun k hk => (hown.lt k hk).1)).setCell (p := ⟨b, 1, none⟩) hB _
end Go.Proofs.YtebaiioejagfoaaGreatDoor

/- Packages: what is ok; their texts and sums; indexes of them (the reference's functions). -/
namespace Go.Proofs.YtebaiioejagfoaaGreatDoor
open Go
set_option linter.unusedVariables false
set_option linter.unusedSimpArgs false
set_option maxHeartbeats 4000000
def fileAt (l : List TFile) (i : Nat) : Prop := (0 ≤ (nth l i).path ∧ (nth l i).path ≤ 5) ∧ (0 ≤ (nth l i).data ∧ (nth l i).data ≤ 9) ∧ (0 < i → (nth l (i - 1)).path < (nth l i).path)
instance (l : List TFile) (i : Nat) : Decidable (fileAt l i) := by unfold fileAt; exact inferInstance
def depAt (name : Int) (l : List TDep) (i : Nat) : Prop := (1 ≤ (nth l i).name ∧ (nth l i).name ≤ 4) ∧ (nth l i).name ≠ name ∧ (1 ≤ (nth l i).least ∧ (nth l i).least ≤ 5) ∧ (0 < i → (nth l (i - 1)).name < (nth l i).name)
instance (name : Int) (l : List TDep) (i : Nat) : Decidable (depAt name l i) := by unfold depAt; exact inferInstance
def filesAt (l : List TFile) : Bool := decide (∀ i, i < l.length → fileAt l i)
def depsAt (name : Int) (l : List TDep) : Bool := decide (∀ i, i < l.length → depAt name l i)
def filesOk (l : List TFile) : Bool := decide (l.length ≤ 2) && filesAt l
def depsOk (name : Int) (l : List TDep) : Bool := decide (l.length ≤ 2) && depsAt name l
def pkgOk (p : TPkg) : Bool := decide (1 ≤ p.name ∧ p.name ≤ 4) && decide (1 ≤ p.ver ∧ p.ver ≤ 5) && filesOk p.files && depsOk p.name p.deps
theorem pkgOk_iff {p : TPkg} : pkgOk p = true ↔ (1 ≤ p.name ∧ p.name ≤ 4) ∧ (1 ≤ p.ver ∧ p.ver ≤ 5) ∧ filesOk p.files = true ∧ depsOk p.name p.deps = true := by
  simp [pkgOk, and_assoc]
theorem s_l1Files_L (l : List TFile) (hl : l.length ≤ 2000000) : ∀ i, i ≤ l.length → (∀ j, j < i → fileAt l j) → ∀ (k : Int) (c : Nat), k = i →
    Ev (fun n => L101_2 (callF prg n) (n + 1) 0 (n + 1 - c) (.sl 2 (l.map eFile)) (iI k) []) (Is (bB (filesOk l)) []) := by
  refine up_ind ?_
  intro i hi ih hp k c hk
  subst hk
  (refine UL101_2 ?_; unfold LB101_2)
  repeat' (first | ((with_reducible refine eG ?_); first | (with_reducible first | refine ev_gtt ?_ | refine ev_gff ?_ | refine ev_gtf ?_ | refine ev_gft ?_ | refine ev_gu ?_) | refine ev_bd rfl ?_ | refine ev_bd0 rfl ?_ | ((with_reducible refine ev_gB ?_ ?_) <;> intro h)) | ((with_reducible refine eB ?_); first | ((with_reducible first | refine ev_lss ?_ ?_ | refine ev_leq ?_ ?_ | refine ev_gtr ?_ ?_ | refine ev_geq ?_ ?_) <;> intro h <;> try (exfalso; omega)) | ((with_reducible first | refine ev_add ?_ ?_ | refine ev_sub ?_ ?_); · omega) | refine ev_bd rfl ?_ | refine ev_bd0 rfl ?_) | ((with_reducible refine eL ?_); first | ((with_reducible refine ev_lenm ?_ ?_); · rfl) | refine ev_lenom rfl rfl ?_ | refine ev_lenoc rfl rfl rfl ?_ | refine ev_lenc rfl rfl ?_ | refine ev_leno rfl rfl ?_ | refine ev_slen rfl ?_ | refine ev_bd rfl ?_ | refine ev_bd0 rfl ?_) | ((with_reducible refine eI ?_); first | ((with_reducible refine ev_idx ?_ ?_ ?_); (· rfl); · omega) | (refine ev_idxo rfl rfl ?_ ?_; (· first | omega | (simp only [List.length_cons, List.length_nil, List.length_map, List.length_append]; omega))) | refine ev_bd rfl ?_ | refine ev_bd0 rfl ?_) | ((with_reducible refine eC ?_); first | ((refine ev_callD (s_l6In ..) rfl rfl ?_ rfl rfl ?_ ?_); (focus first | exact .inl rfl | exact .inr rfl | (refine .inr ?_; simp [flagC, ownF, hasSl3, hasSl1, SO.hasSl, List.all_map, flatSV, SV.cells, Function.comp_def]; done)); (all_goals (intro h)); (all_goals (try (exfalso; first | omega | exact h rfl | exact h ⟨rfl, rfl, rfl⟩))))) | ((with_reducible refine eK ?_); first | (with_reducible first | refine ev_ct ?_ | refine ev_cf ?_) | ((with_reducible refine ev_cond ?_ ?_) <;> intro h)) | ((with_reducible refine eO ?_); first | refine ev_bd rfl ?_ | (refine ev_bdB rfl ?_ ?_ <;> intro h <;> try (exfalso; simp_all; done)) | refine ev_bd0 rfl ?_) | ((with_reducible refine eD ?_); first | refine ev_bd rfl ?_ | refine ev_bd0 rfl ?_ | ((with_reducible refine ev_pickB ?_ ?_) <;> intro h)) | ((with_reducible refine ih ?_ (all_step hp ?_) _ _ ?_) <;> (first | omega | assumption | ((unfold fileAt; (try simp only [Int.toNat_natCast, tn_sub1, tn_add1] at *); omega)) | (simp only [*, List.map_append, List.length_append, List.length_cons, List.length_nil, List.map_cons, List.map_nil]; done) | (simp_all; done) | (simp_all; omega))) | refine ev_ret rfl ?_)
  all_goals first
    | (have hm : filesAt l = false := all_false (i := i) (by omega) (by unfold fileAt; (try simp only [Int.toNat_natCast, tn_sub1, tn_add1] at *); omega)
       exact ⟨congrArg bB (by simp [filesOk, hm]), rfl⟩)
    | (have hm : filesAt l = true := all_true hp (by omega)
       exact ⟨congrArg bB (by simp [filesOk, hm] <;> omega), rfl⟩)
    | trace_state
theorem s_l1Files (l : List TFile) (hl : l.length ≤ 2000000) : Ex (fun m => callF prg m 101 [.sl 2 (l.map eFile)] []) (bB (filesOk l)) [] := by
  refine ev_is.1 ?_
  (refine U101 (nl := 0) rfl ?_; unfold B101)
  exact s_l1Files_L l hl 0 (by omega) (fun j hj => by omega) 0 0 rfl
theorem s_l1Deps_L (name : Int) (l : List TDep) (hl : l.length ≤ 2000000) : ∀ i, i ≤ l.length → (∀ j, j < i → depAt name l j) → ∀ (k : Int) (c : Nat), k = i →
    Ev (fun n => G102_2 (callF prg n) (n + 1) 0 (n + 1 - c) [iI name, .sl 2 (l.map eDep), iI k] []) (Is (bB (depsOk name l)) []) := by
  refine up_ind ?_
  intro i hi ih hp k c hk
  subst hk
  (refine UG102_2 _ ?_; unfold GB102_2)
  repeat' (first | ((with_reducible refine eG ?_); first | (with_reducible first | refine ev_gtt ?_ | refine ev_gff ?_ | refine ev_gtf ?_ | refine ev_gft ?_ | refine ev_gu ?_) | refine ev_bd rfl ?_ | refine ev_bd0 rfl ?_ | ((with_reducible refine ev_gB ?_ ?_) <;> intro h)) | ((with_reducible refine eB ?_); first | ((with_reducible first | refine ev_lss ?_ ?_ | refine ev_leq ?_ ?_ | refine ev_gtr ?_ ?_ | refine ev_geq ?_ ?_ | refine ev_eql ?_ ?_) <;> intro h <;> try (exfalso; omega)) | ((with_reducible first | refine ev_add ?_ ?_ | refine ev_sub ?_ ?_); · omega) | refine ev_bd rfl ?_ | refine ev_bd0 rfl ?_) | ((with_reducible refine eL ?_); first | ((with_reducible refine ev_lenm ?_ ?_); · rfl) | refine ev_lenom rfl rfl ?_ | refine ev_lenoc rfl rfl rfl ?_ | refine ev_lenc rfl rfl ?_ | refine ev_leno rfl rfl ?_ | refine ev_slen rfl ?_ | refine ev_bd rfl ?_ | refine ev_bd0 rfl ?_) | ((with_reducible refine eI ?_); first | ((with_reducible refine ev_idx ?_ ?_ ?_); (· rfl); · omega) | (refine ev_idxo rfl rfl ?_ ?_; (· first | omega | (simp only [List.length_cons, List.length_nil, List.length_map, List.length_append]; omega))) | refine ev_bd rfl ?_ | refine ev_bd0 rfl ?_) | ((with_reducible refine eC ?_); first | ((refine ev_callD (s_l6In ..) rfl rfl ?_ rfl rfl ?_ ?_); (focus first | exact .inl rfl | exact .inr rfl | (refine .inr ?_; simp [flagC, ownF, hasSl3, hasSl1, SO.hasSl, List.all_map, flatSV, SV.cells, Function.comp_def]; done)); (all_goals (intro h)); (all_goals (try (exfalso; first | omega | exact h rfl | exact h ⟨rfl, rfl, rfl⟩))))) | ((with_reducible refine eK ?_); first | (with_reducible first | refine ev_ct ?_ | refine ev_cf ?_) | ((with_reducible refine ev_cond ?_ ?_) <;> intro h)) | ((with_reducible refine eO ?_); first | refine ev_bd rfl ?_ | (refine ev_bdB rfl ?_ ?_ <;> intro h <;> try (exfalso; simp_all; done)) | refine ev_bd0 rfl ?_) | ((with_reducible refine eD ?_); first | refine ev_bd rfl ?_ | refine ev_bd0 rfl ?_ | ((with_reducible refine ev_pickB ?_ ?_) <;> intro h)) | ((with_reducible refine eH ?_); first | refine ev_gcB rfl ?_) | (with_reducible first | refine UL102_2 ?_ | refine VL102_2 ?_) | ((with_reducible refine ih ?_ (all_step hp ?_) _ _ ?_) <;> (first | omega | assumption | ((unfold depAt; (try simp only [Int.toNat_natCast, tn_sub1, tn_add1] at *); omega)) | (simp only [*, List.map_append, List.length_append, List.length_cons, List.length_nil, List.map_cons, List.map_nil]; done) | (simp_all; done) | (simp_all; omega))) | refine ev_ret rfl ?_)
  all_goals first
    | (have hm : depsAt name l = false := all_false (i := i) (by omega) (by unfold depAt; (try simp only [Int.toNat_natCast, tn_sub1, tn_add1] at *); omega)
       exact ⟨congrArg bB (by simp [depsOk, hm]), rfl⟩)
    | (have hm : depsAt name l = true := all_true hp (by omega)
       exact ⟨congrArg bB (by simp [depsOk, hm] <;> omega), rfl⟩)
    | trace_state
theorem s_l1Deps (name : Int) (l : List TDep) (hl : l.length ≤ 2000000) : Ex (fun m => callF prg m 102 [iI name, .sl 2 (l.map eDep)] []) (bB (depsOk name l)) [] := by
  refine ev_is.1 ?_
  (refine U102 (nl := 0) rfl ?_; unfold B102)
  repeat' (first | ((with_reducible refine eD ?_); first | refine ev_bd rfl ?_ | refine ev_bd0 rfl ?_) | ((with_reducible refine eH ?_); first | refine ev_gcB rfl ?_) | (with_reducible first | refine UL102_2 ?_ | refine VL102_2 ?_) | ( exact s_l1Deps_L name l hl 0 (by omega) (fun j hj => by omega) 0 1 rfl) | refine ev_ret rfl ?_)
theorem s_PkgOkS (name ver : Int) (F : List TFile) (D : List TDep) (hF : F.length ≤ 2000000) (hD : D.length ≤ 2000000) : Ex (fun m => callF prg m 69 [.ag [iI name, iI ver, .sl 2 (F.map eFile), .sl 2 (D.map eDep)]] []) (bB (pkgOk ⟨name, ver, F, D⟩)) [] := by
  refine ev_is.1 ?_
  (refine U69 (nl := 0) rfl ?_; unfold B69)
  repeat' (first | ((with_reducible refine eG ?_); first | (with_reducible first | refine ev_gtt ?_ | refine ev_gff ?_ | refine ev_gtf ?_ | refine ev_gft ?_ | refine ev_gu ?_) | refine ev_bd rfl ?_ | refine ev_bd0 rfl ?_ | ((with_reducible refine ev_gB ?_ ?_) <;> intro h)) | ((with_reducible refine eC ?_); first | ((refine ev_callD (s_l6In ..) rfl rfl ?_ rfl rfl ?_ ?_); (focus first | exact .inl rfl | exact .inr rfl | (refine .inr ?_; simp [flagC, ownF, hasSl3, hasSl1, SO.hasSl, List.all_map, flatSV, SV.cells, Function.comp_def]; done)); (all_goals (intro h)); (all_goals (try (exfalso; first | omega | exact h rfl | exact h ⟨rfl, rfl, rfl⟩)))) | ((refine ev_callB (s_l1Files _ hF) rfl rfl ?_ rfl rfl ?_ ?_); (focus first | exact .inl rfl | exact .inr rfl | (refine .inr ?_; simp [flagC, ownF, hasSl3, hasSl1, SO.hasSl, List.all_map, flatSV, SV.cells, Function.comp_def]; done)); (all_goals (intro h)); (all_goals (try (exfalso; simp_all; done)))) | ((refine ev_callB (s_l1Deps _ _ hD) rfl rfl ?_ rfl rfl ?_ ?_); (focus first | exact .inl rfl | exact .inr rfl | (refine .inr ?_; simp [flagC, ownF, hasSl3, hasSl1, SO.hasSl, List.all_map, flatSV, SV.cells, Function.comp_def]; done)); (all_goals (intro h)); (all_goals (try (exfalso; simp_all; done))))) | ((with_reducible refine eO ?_); first | refine ev_bd rfl ?_ | (refine ev_bdB rfl ?_ ?_ <;> intro h <;> try (exfalso; simp_all; done)) | refine ev_bd0 rfl ?_) | ((with_reducible refine eD ?_); first | refine ev_bd rfl ?_ | refine ev_bd0 rfl ?_ | ((with_reducible refine ev_pickB ?_ ?_) <;> intro h)) | refine ev_ret rfl ?_)
  all_goals (refine ⟨congrArg (fun b => SV.v (Value.bool b)) ?_, rfl⟩; first | (simp_all [pkgOk]; done) | (simp_all [pkgOk]; omega) | (simp [pkgOk] at *; omega) | (simp [pkgOk]; omega) | grind [pkgOk] | trace_state)
def bt (n : Int) : UInt8 := UInt8.ofNat n.toNat
theorem s_l6Dec (n : Int) (h : 0 ≤ n ∧ n < 10) : Ex (fun m => callF prg m 72 [iI n] []) (sS [bt (48 + n)]) [] := by
  refine ev_is.1 ?_
  (refine U72 (nl := 0) rfl ?_; unfold B72)
  repeat' (first | ((with_reducible refine eB ?_); first | ((with_reducible refine ev_lss ?_ ?_) <;> intro h <;> try (exfalso; omega)) | ((with_reducible refine ev_add ?_ ?_); · omega) | ((with_reducible refine ev_quo ?_ ?_ ?_); (· omega); (· omega); intro x hx hx0 hx1) | ((with_reducible refine ev_rem ?_ ?_); (· omega); intro x hx hx0 hx1) | refine ev_bd rfl ?_ | refine ev_bd0 rfl ?_) | ((with_reducible refine eC ?_); first | fail) | ((with_reducible refine eV ?_); first | ( ((with_reducible refine ev_conv_u8 ?_ ?_ ?_ ?_); (focus rfl); (focus rfl); (focus omega))) | ( refine ev_byte1 rfl rfl rfl rfl ?_) | ((with_reducible refine ev_conv64 ?_ ?_ ?_ ?_); (· rfl); (· rfl); · omega) | refine ev_bd rfl ?_ | refine ev_bd0 rfl ?_) | ((with_reducible refine eK ?_); first | (with_reducible first | refine ev_ct ?_ | refine ev_cf ?_) | ((with_reducible refine ev_cond ?_ ?_) <;> intro h)) | ((with_reducible refine eD ?_); first | refine ev_bd rfl ?_ | refine ev_bd0 rfl ?_) | refine ev_ret rfl ?_)
  all_goals exact ⟨rfl, rfl⟩
theorem s_l1Name (name ver : Int) (h : 1 ≤ name ∧ name ≤ 4) (hv : 0 ≤ ver ∧ ver < 10) : Ex (fun m => callF prg m 71 [iI name, iI ver] []) (sS [bt (96 + name), bt (48 + ver)]) [] := by
  refine ev_is.1 ?_
  (refine U71 (nl := 0) rfl ?_; unfold B71)
  repeat' (first | ((with_reducible refine eB ?_); first | ((with_reducible first | refine ev_add ?_ ?_ | refine ev_sub ?_ ?_); · omega) | ( ((with_reducible refine ev_cat ?_ ?_); (focus simp))) | refine ev_bd rfl ?_ | refine ev_bd0 rfl ?_) | ((with_reducible refine eC ?_); first | ((refine ev_call (s_l6Dec _ hv) rfl rfl ?_ rfl ?_); (focus first | exact .inl rfl | exact .inr rfl | (refine .inr ?_; simp [flagC, ownF, hasSl3, hasSl1, SO.hasSl, List.all_map, flatSV, SV.cells, Function.comp_def]; done)))) | ((with_reducible refine eV ?_); first | ( ((with_reducible refine ev_conv_u8 ?_ ?_ ?_ ?_); (focus rfl); (focus rfl); (focus omega))) | ( refine ev_byte1 rfl rfl rfl rfl ?_) | ((with_reducible refine ev_conv64 ?_ ?_ ?_ ?_); (· rfl); (· rfl); · omega) | refine ev_bd rfl ?_ | refine ev_bd0 rfl ?_) | ((with_reducible refine eD ?_); first | refine ev_bd rfl ?_ | refine ev_bd0 rfl ?_) | (with_reducible refine ev_bothI ?_ ?_) | refine ev_ret rfl ?_)
  all_goals exact ⟨by show sS _ = sS _; simp [bt, show (97 : Int) + name - 1 = 96 + name by omega], rfl⟩
def fileTx (f : TFile) : List UInt8 := [32, bt (48 + f.path), 58, bt (48 + f.data)]
def depTx (d : TDep) : List UInt8 := [32, bt (96 + d.name), bt (48 + d.least)]
def pkgTx (p : TPkg) : List UInt8 := [bt (96 + p.name), bt (48 + p.ver)] ++ p.files.flatMap fileTx ++ p.deps.flatMap depTx
def pkgText (p : TPkg) : List UInt8 := if pkgOk p = true then pkgTx p else []
theorem flat_take {α : Type} [Inhabited α] (f : α → List UInt8) {l : List α} {i : Nat} (hi : i < l.length) : (l.take (i + 1)).flatMap f = (l.take i).flatMap f ++ f (nth l i) := by
  have : l.take (i + 1) = l.take i ++ [nth l i] := by rw [List.take_add_one, get_nth hi]; rfl
  rw [this, List.flatMap_append]; simp
theorem flat_len {α : Type} (f : α → List UInt8) (k : Nat) (hf : ∀ x, (f x).length = k) : ∀ l : List α, (l.flatMap f).length = k * l.length
  | [] => by simp
  | x :: xs => by rw [List.flatMap_cons, List.length_append, hf, flat_len f k hf xs, List.length_cons]; rw [Nat.mul_add, Nat.mul_one, Nat.add_comm]
theorem s_PkgText_L9 (p : TPkg) (hp : pkgOk p = true) : ∀ i, i ≤ p.deps.length → ∀ (t : List UInt8) (k : Int) (c : Nat), k = i → t = [bt (96 + p.name), bt (48 + p.ver)] ++ p.files.flatMap fileTx ++ (p.deps.take i).flatMap depTx →
    Ev (fun n => L32_9 (callF prg n) (n + 1) 0 (n + 1 - c) (.ptr 0 0) (sS t) (iI k) [.box [iI p.name, iI p.ver, .sl 2 (p.files.map eFile), .sl 2 (p.deps.map eDep)]]) (Is (sS (pkgTx p)) []) := by
  obtain ⟨hn, hv, hf, hd⟩ := pkgOk_iff.1 hp
  simp only [filesOk, depsOk, Bool.and_eq_true, decide_eq_true_eq] at hf hd
  have hda : ∀ i, i < p.deps.length → depAt p.name p.deps i := of_decide_eq_true hd.2
  refine up_ind ?_
  intro i hi ih t k c hk ht
  subst hk
  have h1 := flat_len fileTx 4 (fun x => rfl) p.files
  have h2 := flat_len depTx 3 (fun x => rfl) (p.deps.take i)
  have h3 : (p.deps.take i).length ≤ 2 := by rw [List.length_take]; omega
  have htl : t.length ≤ 100 := by rw [ht]; simp only [List.length_append, h1, h2, List.length_cons, List.length_nil]; omega
  have hdi := hda i
  (refine UL32_9 ?_; unfold LB32_9)
  repeat' (first | ((with_reducible refine eB ?_); first | ((with_reducible refine ev_lss ?_ ?_) <;> intro h <;> try (exfalso; omega)) | ((with_reducible refine ev_add ?_ ?_); · omega) | ( ((with_reducible refine ev_cat ?_ ?_); (focus (simp only [List.length_append, List.length_cons, List.length_nil]; omega)))) | refine ev_bd rfl ?_ | refine ev_bd0 rfl ?_) | ((with_reducible refine eL ?_); first | ((with_reducible refine ev_lenm ?_ ?_); · rfl) | refine ev_lenom rfl rfl ?_ | refine ev_lenoc rfl rfl rfl ?_ | refine ev_lenc rfl rfl ?_ | refine ev_leno rfl rfl ?_ | refine ev_slen rfl ?_ | refine ev_bd rfl ?_ | refine ev_bd0 rfl ?_) | ((with_reducible refine eI ?_); first | ((with_reducible refine ev_idx ?_ ?_ ?_); (· rfl); · omega) | (refine ev_idxo rfl rfl ?_ ?_; (· first | omega | (simp only [List.length_cons, List.length_nil, List.length_map, List.length_append]; omega))) | refine ev_bd rfl ?_ | refine ev_bd0 rfl ?_) | ((with_reducible refine eC ?_); first | ((refine ev_call (s_l1Name _ _ (by have := hdi (by omega); unfold depAt at this; simp only [Int.toNat_natCast]; omega) (by have := hdi (by omega); unfold depAt at this; simp only [Int.toNat_natCast]; omega)) rfl rfl ?_ rfl ?_); (focus first | exact .inl rfl | exact .inr rfl | (refine .inr ?_; simp [flagC, ownF, hasSl3, hasSl1, SO.hasSl, List.all_map, flatSV, SV.cells, Function.comp_def]; done)))) | ((with_reducible refine eK ?_); first | (with_reducible first | refine ev_ct ?_ | refine ev_cf ?_) | ((with_reducible refine ev_cond ?_ ?_) <;> intro h)) | ((with_reducible refine eO ?_); first | refine ev_bd rfl ?_ | (refine ev_bdB rfl ?_ ?_ <;> intro h <;> try (exfalso; simp_all; done)) | refine ev_bd0 rfl ?_) | ((with_reducible refine eD ?_); first | refine ev_bd rfl ?_ | refine ev_bd0 rfl ?_) | ((with_reducible refine ih ?_ _ _ _ ?_ ?_) <;> (first | omega | assumption | ((rw [ht, flat_take _ (by omega)]; simp [depTx])) | (simp only [*, List.map_append, List.length_append, List.length_cons, List.length_nil, List.map_cons, List.map_nil]; done) | (simp_all; done) | (simp_all; omega))) | refine ev_ret rfl ?_)
  exact ⟨by rw [ht, List.take_of_length_le (by omega)]; rfl, rfl⟩
theorem s_PkgText_L5 (p : TPkg) (hp : pkgOk p = true) : ∀ i, i ≤ p.files.length → ∀ (t : List UInt8) (k : Int) (c : Nat), k = i → t = [bt (96 + p.name), bt (48 + p.ver)] ++ (p.files.take i).flatMap fileTx →
    Ev (fun n => L32_5 (callF prg n) (n + 1) 0 (n + 1 - c) (.ptr 0 0) (sS t) (iI k) [.box [iI p.name, iI p.ver, .sl 2 (p.files.map eFile), .sl 2 (p.deps.map eDep)]]) (Is (sS (pkgTx p)) []) := by
  obtain ⟨hn, hv, hf, hd⟩ := pkgOk_iff.1 hp
  simp only [filesOk, depsOk, Bool.and_eq_true, decide_eq_true_eq] at hf hd
  have hfa : ∀ i, i < p.files.length → fileAt p.files i := of_decide_eq_true hf.2
  refine up_ind ?_
  intro i hi ih t k c hk ht
  subst hk
  have h1 := flat_len fileTx 4 (fun x => rfl) (p.files.take i)
  have h3 : (p.files.take i).length ≤ 2 := by rw [List.length_take]; omega
  have htl : t.length ≤ 100 := by rw [ht]; simp only [List.length_append, h1, List.length_cons, List.length_nil]; omega
  have hfi := hfa i
  (refine UL32_5 ?_; unfold LB32_5)
  repeat' (first | ((with_reducible refine eB ?_); first | ((with_reducible refine ev_lss ?_ ?_) <;> intro h <;> try (exfalso; omega)) | ((with_reducible refine ev_add ?_ ?_); · omega) | ( ((with_reducible refine ev_cat ?_ ?_); (focus (simp only [List.length_append, List.length_cons, List.length_nil]; omega)))) | refine ev_bd rfl ?_ | refine ev_bd0 rfl ?_) | ((with_reducible refine eL ?_); first | ((with_reducible refine ev_lenm ?_ ?_); · rfl) | refine ev_lenom rfl rfl ?_ | refine ev_lenoc rfl rfl rfl ?_ | refine ev_lenc rfl rfl ?_ | refine ev_leno rfl rfl ?_ | refine ev_slen rfl ?_ | refine ev_bd rfl ?_ | refine ev_bd0 rfl ?_) | ((with_reducible refine eI ?_); first | ((with_reducible refine ev_idx ?_ ?_ ?_); (· rfl); · omega) | (refine ev_idxo rfl rfl ?_ ?_; (· first | omega | (simp only [List.length_cons, List.length_nil, List.length_map, List.length_append]; omega))) | refine ev_bd rfl ?_ | refine ev_bd0 rfl ?_) | ((with_reducible refine eC ?_); first | ((refine ev_call (s_l6Dec _ (by have := hfi (by omega); unfold fileAt at this; simp only [Int.toNat_natCast]; omega)) rfl rfl ?_ rfl ?_); (focus first | exact .inl rfl | exact .inr rfl | (refine .inr ?_; simp [flagC, ownF, hasSl3, hasSl1, SO.hasSl, List.all_map, flatSV, SV.cells, Function.comp_def]; done)))) | ((with_reducible refine eK ?_); first | (with_reducible first | refine ev_ct ?_ | refine ev_cf ?_) | ((with_reducible refine ev_cond ?_ ?_) <;> intro h)) | ((with_reducible refine eO ?_); first | refine ev_bd rfl ?_ | (refine ev_bdB rfl ?_ ?_ <;> intro h <;> try (exfalso; simp_all; done)) | refine ev_bd0 rfl ?_) | ((with_reducible refine eD ?_); first | refine ev_bd rfl ?_ | refine ev_bd0 rfl ?_) | ((with_reducible refine ev_dchk ?_ ?_); · intro _; rfl) | (with_reducible refine ev_bothI ?_ ?_) | ((with_reducible refine UJ32_6 ?_); (unfold JB32_6)) | ((with_reducible refine ih ?_ _ _ _ ?_ ?_) <;> (first | omega | assumption | ((rw [ht, flat_take _ (by omega)]; simp [fileTx])) | (simp only [*, List.map_append, List.length_append, List.length_cons, List.length_nil, List.map_cons, List.map_nil]; done) | (simp_all; done) | (simp_all; omega))) | ( exact s_PkgText_L9 p hp 0 (by omega) _ 0 0 rfl (by rw [ht, List.take_of_length_le (by omega)]; simp)) | refine ev_ret rfl ?_)
theorem s_PkgTextS (name ver : Int) (F : List TFile) (D : List TDep) (hF : F.length ≤ 2000000) (hD : D.length ≤ 2000000) : Ex (fun m => callF prg m 32 [.ag [iI name, iI ver, .sl 2 (F.map eFile), .sl 2 (D.map eDep)]] []) (sS (pkgText ⟨name, ver, F, D⟩)) [] := by
  refine ev_is.1 ?_
  (refine U32 (nl := 0) rfl ?_; unfold B32)
  repeat' (first | ((with_reducible refine eC ?_); first | ((refine ev_callB (s_PkgOkS _ _ _ _ hF hD) rfl rfl ?_ rfl rfl ?_ ?_); (focus first | exact .inl rfl | exact .inr rfl | (refine .inr ?_; simp [flagC, ownF, hasSl3, hasSl1, SO.hasSl, List.all_map, flatSV, SV.cells, Function.comp_def]; done)); (all_goals (intro h)); (all_goals (try (exfalso; simp_all; done)))) | ((refine ev_call (s_l1Name _ _ (by have := (pkgOk_iff.1 (by assumption : pkgOk ⟨name, ver, F, D⟩ = true)).1; exact this) (by have := (pkgOk_iff.1 (by assumption : pkgOk ⟨name, ver, F, D⟩ = true)).2.1; dsimp only at this; omega)) rfl rfl ?_ rfl ?_); (focus first | exact .inl rfl | exact .inr rfl | (refine .inr ?_; simp [flagC, ownF, hasSl3, hasSl1, SO.hasSl, List.all_map, flatSV, SV.cells, Function.comp_def]; done)))) | ((with_reducible refine eK ?_); first | (with_reducible first | refine ev_ct ?_ | refine ev_cf ?_) | ((with_reducible refine ev_cond ?_ ?_) <;> intro h)) | ((with_reducible refine eO ?_); first | refine ev_bd rfl ?_ | (refine ev_bdB rfl ?_ ?_ <;> intro h <;> try (exfalso; simp_all; done)) | refine ev_bd0 rfl ?_) | ((with_reducible refine eD ?_); first | refine ev_bd rfl ?_ | refine ev_bd0 rfl ?_) | ( (rw [show pkgText ⟨name, ver, F, D⟩ = pkgTx ⟨name, ver, F, D⟩ from if_pos (by assumption)]; exact s_PkgText_L5 ⟨name, ver, F, D⟩ (by assumption) 0 (by omega) _ 0 0 rfl (by simp))) | refine ev_ret rfl ?_)
  exact ⟨by simp [pkgText, *], rfl⟩
theorem pkgText_len (p : TPkg) : (pkgText p).length ≤ 16 := by
  unfold pkgText
  split
  · rename_i hp
    obtain ⟨hn, hv, hf, hd⟩ := pkgOk_iff.1 hp
    simp only [filesOk, depsOk, Bool.and_eq_true, decide_eq_true_eq] at hf hd
    have h1 : ∀ l : List TFile, (l.flatMap fileTx).length = 4 * l.length := fun l => by
      induction l with
      | nil => rfl
      | cons x xs ih => rw [List.flatMap_cons, List.length_append, ih, List.length_cons]; show 4 + _ = _; omega
    have h2 : ∀ l : List TDep, (l.flatMap depTx).length = 3 * l.length := fun l => by
      induction l with
      | nil => rfl
      | cons x xs ih => rw [List.flatMap_cons, List.length_append, ih, List.length_cons]; show 3 + _ = _; omega
    unfold pkgTx
    simp only [List.length_append, h1, h2, List.length_cons, List.length_nil]
    omega
  · simp
def sumStep (s : Int) (b : UInt8) : Int := (31 * s + (b.toNat : Int) + 1) % 9973
def sumOf (l : List UInt8) : Int := l.foldl sumStep 7
theorem sumStep_rng (s : Int) (b : UInt8) : 0 ≤ sumStep s b ∧ sumStep s b ≤ 9972 := by unfold sumStep; omega
theorem sumOf_rng (l : List UInt8) : 0 ≤ sumOf l ∧ sumOf l ≤ 9972 := by
  have key : ∀ (l : List UInt8) (s : Int), 0 ≤ s ∧ s ≤ 9972 → 0 ≤ l.foldl sumStep s ∧ l.foldl sumStep s ≤ 9972 := by
    intro l
    induction l with
    | nil => intro s h; exact h
    | cons x xs ih => intro s h; exact ih _ (sumStep_rng s x)
  exact key l 7 (by omega)
theorem sumOf_step {l : List UInt8} {i : Nat} (hi : i < l.length) : sumOf (l.take (i + 1)) = sumStep (sumOf (l.take i)) (nth l i) := by
  have : l.take (i + 1) = l.take i ++ [nth l i] := by rw [List.take_add_one, get_nth hi]; rfl
  rw [this]; simp [sumOf]
theorem s_SumOfS_L (l : List UInt8) (hl : l.length ≤ 2000000) : ∀ i, i ≤ l.length → ∀ (s k : Int) (c : Nat), k = i → s = sumOf (l.take i) →
    Ev (fun n => L31_3 (callF prg n) (n + 1) 0 (n + 1 - c) (sS l) (iI s) (iI k) []) (Is (iI (sumOf l)) []) := by
  refine up_ind ?_
  intro i hi ih s k c hk hs
  subst hk
  have hr := sumOf_rng (l.take i)
  have hb : (nth l i).toNat < 256 := (nth l i).toNat_lt
  (refine UL31_3 ?_; unfold LB31_3)
  repeat' (first | ((with_reducible refine eB ?_); first | ((with_reducible refine ev_lss ?_ ?_) <;> intro h <;> try (exfalso; omega)) | ((with_reducible first | refine ev_add ?_ ?_ | refine ev_mul ?_ ?_); · omega) | ((with_reducible refine ev_rem ?_ ?_); (· omega); intro x hx hx0 hx1) | refine ev_bd rfl ?_ | refine ev_bd0 rfl ?_) | ((with_reducible refine eL ?_); first | ((with_reducible refine ev_lenm ?_ ?_); · rfl) | refine ev_lenom rfl rfl ?_ | refine ev_lenoc rfl rfl rfl ?_ | refine ev_lenc rfl rfl ?_ | refine ev_leno rfl rfl ?_ | refine ev_slen rfl ?_ | refine ev_bd rfl ?_ | refine ev_bd0 rfl ?_) | ((with_reducible refine eV ?_); first | ( ((with_reducible refine ev_conv8 ?_ ?_ ?_ ?_); (focus rfl); (focus rfl); (focus (simp only [Int.toNat_natCast]; omega)); intro hy0 hy1)) | ((with_reducible refine ev_conv64 ?_ ?_ ?_ ?_); (· rfl); (· rfl); · omega) | refine ev_bd rfl ?_ | refine ev_bd0 rfl ?_) | ((with_reducible refine eK ?_); first | (with_reducible first | refine ev_ct ?_ | refine ev_cf ?_) | ((with_reducible refine ev_cond ?_ ?_) <;> intro h)) | ((with_reducible refine eD ?_); first | refine ev_bd rfl ?_ | refine ev_bd0 rfl ?_ | ( (refine ev_sidx rfl ?_ ?_; (focus omega)))) | ((with_reducible refine ih ?_ _ _ _ ?_ ?_) <;> (first | omega | assumption | ((rw [sumOf_step (by omega), ← hs, hx, Int.tmod_eq_emod_of_nonneg (by omega)]; rfl)) | (simp only [*, List.map_append, List.length_append, List.length_cons, List.length_nil, List.map_cons, List.map_nil]; done) | (simp_all; done) | (simp_all; omega))) | refine ev_ret rfl ?_)
  exact ⟨by rw [hs, List.take_of_length_le (by omega)], rfl⟩
theorem s_SumOfS (l : List UInt8) (hl : l.length ≤ 2000000) : Ex (fun m => callF prg m 31 [sS l] []) (iI (sumOf l)) [] := by
  refine ev_is.1 ?_
  (refine U31 (nl := 0) rfl ?_; unfold B31)
  exact s_SumOfS_L l hl 0 (by omega) _ 0 0 rfl rfl
def pkgAt (s : List TPkg) (i : Nat) : Prop := pkgOk (nth s i) = true ∧ (0 < i → pless (nth s (i - 1)) (nth s i))
instance (s : List TPkg) (i : Nat) : Decidable (pkgAt s i) := by unfold pkgAt; exact inferInstance
def storeOk (s : List TPkg) : Bool := decide (∀ i, i < s.length → pkgAt s i)
def PL (s : List TPkg) : Prop := ∀ i, (nth s i).files.length ≤ 2000000 ∧ (nth s i).deps.length ≤ 2000000
theorem s_l3Pkgs_L (s : List TPkg) (hs : s.length ≤ 2000000) (hp0 : PL s) : ∀ i, i ≤ s.length → (∀ j, j < i → pkgAt s j) → ∀ (k : Int) (c : Nat), k = i →
    Ev (fun n => L30_2 (callF prg n) (n + 1) 0 (n + 1 - c) (.sl 4 (s.map ePkg)) (iI k) []) (Is (bB (storeOk s)) []) := by
  refine up_ind ?_
  intro i hi ih hp k c hk
  subst hk
  (refine UL30_2 ?_; unfold LB30_2)
  repeat' (first | ((with_reducible refine eG ?_); first | (with_reducible first | refine ev_gtt ?_ | refine ev_gff ?_ | refine ev_gtf ?_ | refine ev_gft ?_ | refine ev_gu ?_) | refine ev_bd rfl ?_ | refine ev_bd0 rfl ?_ | ((with_reducible refine ev_gB ?_ ?_) <;> intro h)) | ((with_reducible refine eB ?_); first | ((with_reducible first | refine ev_lss ?_ ?_ | refine ev_gtr ?_ ?_) <;> intro h <;> try (exfalso; omega)) | ((with_reducible first | refine ev_add ?_ ?_ | refine ev_sub ?_ ?_); · omega) | refine ev_bd rfl ?_ | refine ev_bd0 rfl ?_) | ((with_reducible refine eL ?_); first | ((with_reducible refine ev_lenm ?_ ?_); · rfl) | refine ev_lenom rfl rfl ?_ | refine ev_lenoc rfl rfl rfl ?_ | refine ev_lenc rfl rfl ?_ | refine ev_leno rfl rfl ?_ | refine ev_slen rfl ?_ | refine ev_bd rfl ?_ | refine ev_bd0 rfl ?_) | ((with_reducible refine eI ?_); first | ((with_reducible refine ev_idx ?_ ?_ ?_); (· rfl); · omega) | (refine ev_idxo rfl rfl ?_ ?_; (· first | omega | (simp only [List.length_cons, List.length_nil, List.length_map, List.length_append]; omega))) | refine ev_bd rfl ?_ | refine ev_bd0 rfl ?_) | ((with_reducible refine eC ?_); first | ((refine ev_callB (s_PkgOkS _ _ _ _ (hp0 _).1 (hp0 _).2) rfl rfl ?_ rfl rfl ?_ ?_); (focus first | exact .inl rfl | exact .inr rfl | (refine .inr ?_; simp [flagC, ownF, hasSl3, hasSl1, SO.hasSl, List.all_map, flatSV, SV.cells, Function.comp_def]; done)); (all_goals (intro h)); (all_goals (try (exfalso; simp_all; done)))) | ((refine ev_callD (s_l3Less ..) rfl rfl ?_ rfl rfl ?_ ?_); (focus first | exact .inl rfl | exact .inr rfl | (refine .inr ?_; simp [flagC, ownF, hasSl3, hasSl1, SO.hasSl, List.all_map, flatSV, SV.cells, Function.comp_def]; done)); (all_goals (intro h)); (all_goals (try (exfalso; first | omega | exact h rfl | exact h ⟨rfl, rfl, rfl⟩))))) | ((with_reducible refine eK ?_); first | (with_reducible first | refine ev_ct ?_ | refine ev_cf ?_) | ((with_reducible refine ev_cond ?_ ?_) <;> intro h)) | ((with_reducible refine eO ?_); first | refine ev_bd rfl ?_ | (refine ev_bdB rfl ?_ ?_ <;> intro h <;> try (exfalso; simp_all; done)) | refine ev_bd0 rfl ?_) | ((with_reducible refine eD ?_); first | refine ev_bd rfl ?_ | refine ev_bd0 rfl ?_ | ((with_reducible refine ev_pickB ?_ ?_) <;> intro h)) | ((with_reducible refine ih ?_ (all_step hp ?_) _ _ ?_) <;> (first | omega | assumption | ((refine ⟨by assumption, fun hi0 => ?_⟩; unfold pless; (try simp only [Int.toNat_natCast, tn_sub1, tn_add1] at *); omega)) | (simp only [*, List.map_append, List.length_append, List.length_cons, List.length_nil, List.map_cons, List.map_nil]; done) | (simp_all; done) | (simp_all; omega))) | refine ev_ret rfl ?_)
  all_goals first
    | exact ⟨congrArg bB (Eq.symm (all_true hp (by omega))), rfl⟩
    | (refine ⟨congrArg bB (Eq.symm (all_false (i := i) (by omega) ?_)), rfl⟩; intro hh; have h1 := hh.2 (by omega); unfold pless at h1; (try simp only [Int.toNat_natCast, tn_sub1, tn_add1] at *); omega)
    | (refine ⟨congrArg bB (Eq.symm (all_false (i := i) (by omega) ?_)), rfl⟩; intro hh; have h1 := hh.1; simp only [Int.toNat_natCast] at h; simp_all; done)
    | trace_state
theorem s_l3Pkgs (s : List TPkg) (hs : s.length ≤ 2000000) (hp0 : PL s) : Ex (fun m => callF prg m 30 [.sl 4 (s.map ePkg)] []) (bB (storeOk s)) [] := by
  refine ev_is.1 ?_
  (refine U30 (nl := 0) rfl ?_; unfold B30)
  exact s_l3Pkgs_L s hs hp0 0 (by omega) (fun j hj => by omega) 0 0 rfl
def metaOf (p : TPkg) : TMeta := ⟨p.name, p.ver, sumOf (pkgText p)⟩
def zIndex : TIndex := ⟨0, 0, []⟩
def indexOf (num til : Int) (s : List TPkg) : TIndex × Bool := if storeOk s = true ∧ indexOk num til (s.map metaOf) = true then (⟨num, til, s.map metaOf⟩, true) else (zIndex, false)
abbrev rIndex (x : TIndex) : SV := .ag [iI x.num, iI x.til, .osl 0]
end Go.Proofs.YtebaiioejagfoaaGreatDoor

/- The exact laws' functions over packages: making and marking, walked. -/
set_option linter.unusedVariables false
set_option linter.unusedSimpArgs false
namespace Go.Proofs.YtebaiioejagfoaaGreatDoor
open Go Go.Shelf Go.RowKit Go.Lib Go.Proofs
set_option maxHeartbeats 1000000
set_option maxRecDepth 100000
theorem wpList_ld {P : Program} {ops : Array Oper} {rest : List Oper} {o : Oper} {a : Act} {w : World} {Q : Exit → Act → World → Prop} (hgd : o.guard = none) (ty : TypeId) (x : Operand) (ho : o.op = .load ty x)
    (p v : Value) (hx : a.eval x = p) (hr : (Instr.loadAt ty p).run P w = .ok v w) (h : wpList P ops Q rest (a.put o.dst v) w) : wpList P ops Q (o :: rest) a w :=
  wpList_plain hgd fun _ hK => by
    unfold Oper.wp execOp
    simp only [ho, hx, Sem.run_bind, hr, Result.andThen_ok, Sem.run_pure]
    exact hK _ _ h
theorem wpList_st {P : Program} {ops : Array Oper} {rest : List Oper} {o : Oper} {a : Act} {w w' : World} {Q : Exit → Act → World → Prop} (hgd : o.guard = none) (ty : TypeId) (x y : Operand) (ho : o.op = .store ty x y)
    (p v : Value) (hx : a.eval x = p) (hy : a.eval y = v) (hr : (Instr.storeAt ty p v).run P w = .ok () w') (h : wpList P ops Q rest (a.put o.dst undef) w') : wpList P ops Q (o :: rest) a w :=
  wpList_plain hgd fun _ hK => by
    unfold Oper.wp execOp
    simp only [ho, hx, hy, Sem.run_bind, hr, Result.andThen_ok, Sem.run_pure]
    exact hK _ _ h
theorem mark_walk {I : Nat → Int → World → Prop} {n c b : Nat} {k0 : Int} {w : World} (hn : n ≤ 2000000) (h0 : I 0 k0 w) (hk : ∀ i k wr, I i k wr → 0 ≤ k ∧ k ≤ 4611686018427387904)
    (step : ∀ i k wr, i < n → I i k wr → ∃ v0 v1 s1, wr.cell? ⟨b, i * 4, none⟩ = some v0 ∧ wr.frozen? ⟨b, i * 4, none⟩ = false ∧
      (wr.setCell ⟨b, i * 4, none⟩ (.int .i64 k)).cell? ⟨b, i * 4 + 1, none⟩ = some v1 ∧ (wr.setCell ⟨b, i * 4, none⟩ (.int .i64 k)).frozen? ⟨b, i * 4 + 1, none⟩ = false ∧
      ((wr.setCell ⟨b, i * 4, none⟩ (.int .i64 k)).setCell ⟨b, i * 4 + 1, none⟩ (.int .i64 (k + 1))).cell? ⟨b, i * 4 + 2, none⟩ = some s1 ∧
        Calls Tryz.prog 65 #[s1, .int .i64 (k + 1 + 1)] ((wr.setCell ⟨b, i * 4, none⟩ (.int .i64 k)).setCell ⟨b, i * 4 + 1, none⟩ (.int .i64 (k + 1))) fun e w2 => ∃ k2, e = .returned (.int .i64 k2) ∧
          ∃ s2, w2.cell? ⟨b, i * 4 + 3, none⟩ = some s2 ∧ Calls Tryz.prog 66 #[s2, .int .i64 k2] w2 fun e w3 => ∃ k3, e = .returned (.int .i64 k3) ∧ I (i + 1) k3 w3) :
    Calls Tryz.prog 24 #[.slice (some ⟨b, 0, none⟩) n c, .int .i64 k0] w fun e w' => ∃ k', e = .returned (.int .i64 k') ∧ I n k' w' := by
  have mixed : Tryz.prog.follows .mixedOrders = true := by kernel_rfl
  go_enter Tryz.func24, Tryz.ntmps24
  go_wp2
  go_loopw [1, 5] (fun v i wr => ∃ (j : Nat) (k : Int), j ≤ n ∧ i = .int .i64 j ∧ v = .int .i64 k ∧ I j k wr) (fun _ i _ => n - (RowKit.intOf i).toNat)
  case atStart => exact ⟨0, k0, Nat.zero_le _, rfl, rfl, h0⟩
  case round =>
    obtain ⟨j, k, hj, rfl, rfl, hI⟩ := hrel
    by_cases hjn : j < n
    · obtain ⟨v0, v1, s1, e1, e2, e3, e4, e5, e6⟩ := step j k wr hjn hI
      have hkk := hk j k wr hI
      clear step h0 hk hI
      go_wp2_with (first
        | (go_at_call 65; refine e6.mono ?_; rintro e w2 ⟨k2, rfl, s2, f1, f2⟩)
        | (go_at_call 66; refine f2.mono ?_; rintro e w3 ⟨k3, rfl, f3⟩))
      go_roundw
      case rel => exact ⟨j + 1, k3, by omega, by go_num, rfl, f3⟩
      case measure => simp [RowKit.intOf]; omega
    · go_wp2
      obtain rfl : j = n := by omega
      go_ret
      exact ⟨_, rfl, hI⟩
theorem topk_walk {I : Nat → World → Prop} {n c m ab ao b : Nat} {w w1 : World} (hn : n ≤ 2000000)
    (hmk : (Instr.makeSlice 23 (.int .i64 n) (.int .i64 n)).run Tryz.prog w = .ok (.slice (some ⟨b, 0, none⟩) n m) w1) (h0 : I 0 w1)
    (step : ∀ i wr, i < n → I i wr → ∃ pv, (Instr.loadAt 101 (.pointer (some ⟨ab, ao + i * 4, none⟩))).run Tryz.prog wr = .ok pv wr ∧
        Calls Tryz.prog 55 #[pv] wr fun e w2 => ∃ qv, e = .returned qv ∧ ∃ w3, (Instr.storeAt 35 (.pointer (some ⟨b, i * 4, none⟩)) qv).run Tryz.prog w2 = .ok () w3 ∧ I (i + 1) w3) :
    Calls Tryz.prog 18 #[.slice (some ⟨ab, ao, none⟩) n c] w fun e w' => e = .returned (.slice (some ⟨b, 0, none⟩) n m) ∧ I n w' := by
  have mixed : Tryz.prog.follows .mixedOrders = true := by kernel_rfl
  go_enter Tryz.func18, Tryz.ntmps18
  go_wp2
  go_loopw [4] (fun i wr => ∃ (j : Nat), j ≤ n ∧ i = .int .i64 j ∧ I j wr) (fun i _ => n - (RowKit.intOf i).toNat)
  case atStart => exact ⟨0, Nat.zero_le _, rfl, h0⟩
  case round =>
    obtain ⟨j, hj, rfl, hI⟩ := hrel
    by_cases hjn : j < n
    · obtain ⟨pv, e1, e2⟩ := step j wr hjn hI
      clear step h0 hI
      go_wp2_with (first
        | (refine wpList_ld rfl 101 (.tmp 18) rfl _ pv rfl e1 ?_)
        | (go_at_call 55; refine e2.mono ?_; rintro e w2 ⟨qv, rfl, w3, f1, f2⟩)
        | (refine wpList_st rfl 35 (.tmp 21) (.tmp 20) rfl _ qv rfl rfl f1 ?_))
      go_roundw
      case rel => exact ⟨j + 1, by omega, by go_num, f2⟩
      case measure => simp [RowKit.intOf]; omega
    · go_wp2
      obtain rfl : j = n := by omega
      go_ret
      exact ⟨rfl, hI⟩
end Go.Proofs.YtebaiioejagfoaaGreatDoor

/- The evaluator S: more steps: storing into an element of an array of typed elements; nothing else. -/
namespace Go.Proofs.YtebaiioejagfoaaGreatDoor
open Go
set_option linter.unusedVariables false
set_option linter.unusedSimpArgs false
theorem deVw_pure {y : SV} {os os1 : List SO} {ys : List SV} (hp : pureCells y.cells os = some (ys, os1)) : ∃ z os0, deVw os y = some (z, os0) ∧ pureCells z.cells os0 = some (ys, os1) ∧ z.cells.length = y.cells.length := by
  cases y with
  | vw j lo hi =>
    simp only [SV.cells, pureCells] at hp
    split at hp
    · rename_i y0 os2 h0
      cases hp
      refine ⟨y0, os1, h0, ?_, ?_⟩ <;>
      · unfold pureCell at h0
        simp only at h0
        split at h0
        · split at h0
          · cases h0; rfl
          · cases h0
        · split at h0
          · cases h0; rfl
          · cases h0
        · cases h0
    · cases hp
  | _ => exact ⟨_, os, rfl, hp, rfl⟩
theorem ev_sto {α : Type} [Inhabited α] {f : α → SV} {l : List α} {a : α} {T : Tab} {os os1 os2 : List SO} {t j sz es i off m : Nat} {b : Bool} {y : SV} {ys : List SV} {F : Nat → SV → List SO → Out} {Q}
    (hti : (T.ti t).map (·.size) = some sz) (hsz : Nat.blt 0 sz = true) (hy : Nat.beq y.cells.length sz = true) (hp : pureCells y.cells os = some (ys, os1)) (hj1 : os1[j]? = some (.arr b es (l.map f)))
    (hd : (dcells (f (nth l i))).map List.length = some m) (hm : Nat.ble (off + sz) m = true) (hys : setElem (f (nth l i)) off ys = f a) (hi : i < l.length)
    (hn : nf (some (.undef, os1.set j (.arr b es ((l.set i a).map f)))) = some (.undef, os2)) (h2 : Ev (fun n => F n .undef os2) Q) :
    Ev (fun n => bd (storeO T os t (.ap j i off) (some y)) (F n)) Q := by
  obtain ⟨q, hq, hqs⟩ := Option.map_eq_some_iff.1 hti
  obtain ⟨yc, hyc, hyl⟩ := Option.map_eq_some_iff.1 hd
  have hsz' : 0 < sz := by simpa using hsz
  have hy' : y.cells.length = sz := Nat.eq_of_beq_eq_true hy
  have hm' : off + sz ≤ m := by simpa using hm
  refine ev_bdx (x := .undef) (os := os1.set j (.arr b es ((l.set i a).map f))) ?_ ?_
  · have hg : (l.map f)[i]? = some (f (nth l i)) := by
      rw [List.getElem?_map, get_nth hi]; rfl
    have h1 : (l.map f).set i (f a) = (l.set i a).map f := by rw [List.map_set]
    obtain ⟨z, os0, hz1, hz2, hz3⟩ := deVw_pure hp
    simp only [storeO, evN, hz1, storeS, hq, hqs, hz3.trans hy', if_true, hz2, hj1, hg, hyc]
    rw [if_pos ⟨by rw [hyl]; exact hm', hsz'⟩, hys, h1]
  · rw [nf_eq] at hn
    obtain ⟨-, rfl⟩ := Prod.mk.inj (Option.some.inj hn)
    exact h2
theorem ld_el {α : Type} [Inhabited α] {f : α → SV} {l : List α} {T : Tab} {os : List SO} {t j es i off : Nat} {b : Bool} (hj : os[j]? = some (.arr b es (l.map f))) (hi : i < l.length) :
    loadS T os t (.ap j i off) = loadS T os t (.el (f (nth l i)) off) := by
  have hg : (l.map f)[i]? = some (f (nth l i)) := by
    rw [List.getElem?_map, get_nth hi]; rfl
  simp only [loadS, placeCells, hj, hg]
theorem ev_ldm {α : Type} [Inhabited α] {f : α → SV} {l : List α} {T : Tab} {os os' : List SO} {t j es i off : Nat} {b : Bool} {x : SV} {F : Nat → SV → List SO → Out} {Q} (hj : os[j]? = some (.arr b es (l.map f))) (hi : i < l.length)
    (h : nfB (ret1 (loadS T os t (.el (f (nth l i)) off)) os) = some (x, os')) (h2 : Ev (fun n => F n x os') Q) : Ev (fun n => bd (ret1 (loadS T os t (.ap j i off)) os) (F n)) Q := by
  rw [nfB_eq] at h
  refine ev_bdx (x := x) (os := os') ?_ h2
  rw [ld_el hj hi, h]
theorem ev_ldmB {α : Type} [Inhabited α] {f : α → SV} {l : List α} {T : Tab} {os os' : List SO} {t j es i off : Nat} {b c : Bool} {F : Nat → SV → List SO → Out} {Q} (hj : os[j]? = some (.arr b es (l.map f))) (hi : i < l.length)
    (h : nf (ret1 (loadS T os t (.el (f (nth l i)) off)) os) = some (.v (.bool c), os')) (h1 : c = true → Ev (fun n => F n (.v (.bool true)) os') Q) (h2 : c = false → Ev (fun n => F n (.v (.bool false)) os') Q) : Ev (fun n => bd (ret1 (loadS T os t (.ap j i off)) os) (F n)) Q := by
  rw [nf_eq] at h
  cases c
  · refine ev_bdx (x := .v (.bool false)) (os := os') ?_ (h2 rfl)
    rw [ld_el hj hi, h]
  · refine ev_bdx (x := .v (.bool true)) (os := os') ?_ (h1 rfl)
    rw [ld_el hj hi, h]
theorem ev_lenfm {α : Type} {T : Tab} {t : Nat} {sz j : Nat} {f : α → SV} {l : List α} {os : List SO} {F : Nat → SV → List SO → Out} {Q} (hj : os[j]? = some (.frz sz (l.map f))) (hu : (slSize T t).isSome = true) (h2 : Ev (fun n => F n (iI (l.length : Int)) os) Q) :
    Ev (fun n => bd (lenO T t os (.osl j)) (F n)) Q := by
  obtain ⟨s, hs⟩ := Option.isSome_iff_exists.1 hu
  obtain ⟨e, q, hu, -⟩ := slSize_spec hs
  refine ev_bdx (x := iI (l.length : Int)) (os := os) ?_ h2
  simp [lenO, lenS, hu, elems, hj]
theorem ev_idxn {α : Type} [Inhabited α] {T : Tab} {t : Nat} {enc : α → SV} {l : List α} {sz i : Nat} {os : List SO} {F : Nat → SV → List SO → Out} {Q}
    (hu : slSize T t = some sz) (h0 : i < l.length) (h2 : Ev (fun n => F n (.el (enc (nth l i)) 0) os) Q) :
    Ev (fun n => bd (ret1 (indexAddrS T os t (.sl sz (l.map enc)) (.v (.int .i64 (i : Int)))) os) (F n)) Q :=
  ev_idx hu ⟨by omega, by omega⟩ h2
theorem ev_idxon {T : Tab} {os : List SO} {t j sz : Nat} {b : Bool} {l : List SV} {i : Nat} {F : Nat → SV → List SO → Out} {Q} (hj : os[j]? = some (.arr b sz l)) (hu : slSize T t = some sz) (h0 : i < l.length) (h2 : Ev (fun n => F n (.ap j i 0) os) Q) :
    Ev (fun n => bd (ret1 (indexAddrS T os t (.osl j) (.v (.int .i64 (i : Int)))) os) (F n)) Q :=
  ev_idxo hj hu ⟨by omega, by omega⟩ h2
theorem ev_idxf {α : Type} [Inhabited α] {T : Tab} {t : Nat} {enc : α → SV} {l : List α} {sz j : Nat} {i : Int} {os : List SO} {F : Nat → SV → List SO → Out} {Q}
    (hj : os[j]? = some (.frz sz (l.map enc))) (hu : slSize T t = some sz) (h0 : 0 ≤ i ∧ i < (l.length : Int)) (h2 : Ev (fun n => F n (.el (enc (nth l i.toNat)) 0) os) Q) :
    Ev (fun n => bd (ret1 (indexAddrS T os t (.osl j) (.v (.int .i64 i))) os) (F n)) Q := by
  obtain ⟨e, q, hu, hq, hs⟩ := slSize_spec hu
  refine ev_bdx (x := .el (enc (nth l i.toNat)) 0) (os := os) ?_ h2
  have hg : (l.map enc)[i.toNat]? = some (enc (nth l i.toNat)) := by
    rw [List.getElem?_map, get_nth (by omega)]; rfl
  simp [indexAddrS, hu, hq, hs, hj, h0.1, elS, hg, ret1]
theorem ev_idxfn {α : Type} [Inhabited α] {T : Tab} {t : Nat} {enc : α → SV} {l : List α} {sz j i : Nat} {os : List SO} {F : Nat → SV → List SO → Out} {Q}
    (hj : os[j]? = some (.frz sz (l.map enc))) (hu : slSize T t = some sz) (h0 : i < l.length) (h2 : Ev (fun n => F n (.el (enc (nth l i)) 0) os) Q) :
    Ev (fun n => bd (ret1 (indexAddrS T os t (.osl j) (.v (.int .i64 (i : Int)))) os) (F n)) Q :=
  ev_idxf hj hu ⟨by omega, by omega⟩ h2
theorem ev_mk {α : Type} {f : α → SV} {z : α} {T : Tab} {os os' : List SO} {t sz by_ : Nat} {n : Int} {y : SV} {F : Nat → SV → List SO → Out} {Q} (ht : slBytes T t = some (sz, by_)) (hz : (match T.und t with | some (.slice e) => (match T.ti e with | some i => pack i.agg (zeroP i.zero) | none => none) | _ => none) = some (f z))
    (hn : nf (some (.osl os.length, os ++ [.arr false sz ((List.replicate n.toNat z).map f)])) = some (y, os')) (h0 : 0 ≤ n ∧ by_ * n ≤ 140737488355328 ∧ n < 9223372036854775808) (h2 : Ev (fun n => F n y os') Q) :
    Ev (fun m => bd (makeS T os t (.v (.int .i64 n)) (.v (.int .i64 n))) (F m)) Q := by
  obtain ⟨e, q, hu, hq, h3, h4⟩ := slBytes_spec ht
  dsimp only at h3 h4
  rw [hu] at hz
  dsimp only at hz
  rw [hq] at hz
  dsimp only at hz
  refine ev_bdx (x := .osl os.length) (os := os ++ [.arr false sz ((List.replicate n.toNat z).map f)]) ?_ ?_
  · simp only [makeS, hu, hq, h3]
    rw [if_pos ⟨h0.1, Int.le_refl _, by rw [h4]; exact h0.2.1, h0.2.2⟩, hz]
    simp only [List.map_replicate]
  · rw [nf_eq] at hn
    obtain ⟨rfl, rfl⟩ := Prod.mk.inj (Option.some.inj hn)
    exact h2
theorem ev_callee {c : Nat → Cx} {os : List SO} {f : Nat} {caps args : List SV} {F : Nat → SV → List SO → Out} {Q} (h : Ev (fun n => bd (callS (c n) os f (args ++ caps)) (F n)) Q) : Ev (fun n => bd (calleeS (c n) os (.fn f caps) args) (F n)) Q := h
theorem Ev.of {A : Nat → Out} {x os} {Q : SV → List SO → Prop} (h : Ex A x os) (hq : Q x os) : Ev A Q := ⟨x, os, hq, h⟩
end Go.Proofs.YtebaiioejagfoaaGreatDoor

/- The exact laws' own functions, over whole numbers. -/
namespace Go.Proofs.YtebaiioejagfoaaGreatDoor
open Go
set_option linter.unusedVariables false
set_option linter.unusedSimpArgs false
set_option maxHeartbeats 4000000
theorem nth_set' {α : Type} [Inhabited α] (l : List α) (i j : Nat) (a : α) : nth (l.set i a) j = if i = j ∧ i < l.length then a else nth l j := by
  unfold nth
  simp only [List.getD_eq_getElem?_getD, List.getElem?_set]
  by_cases e : i = j
  · subst e
    by_cases h : i < l.length
    · simp [h]
    · simp [h]
  · simp [e]
def left (n : Nat) (k : Int) : Int := if k - n < 0 then -1 else k - n
theorem left_ok {n : Nat} {k : Int} (h : ¬ left n k < 0) : left n k = k - n ∧ (n : Int) ≤ k := by
  unfold left at h ⊢
  split at h
  · omega
  · rename_i h1; rw [if_neg h1]; omega
theorem s_szIntS (l : List Int) (k : Int) (hl : l.length ≤ 9223372036854775807) (hk : -1 ≤ k ∧ k ≤ 1048576) : Ex (fun m => callF prg m 83 [.sl 1 (l.map iI), iI k] []) (iI (left l.length k)) [] := by
  refine ev_is.1 ?_
  (refine U83 (nl := 0) rfl ?_; unfold B83)
  repeat' (first | ((with_reducible refine eB ?_); first | ((with_reducible refine ev_lss ?_ ?_) <;> intro h <;> try (exfalso; omega)) | ((with_reducible refine ev_sub ?_ ?_); · omega) | refine ev_bd rfl ?_ | refine ev_bd0 rfl ?_) | ((with_reducible refine eL ?_); first | ((with_reducible refine ev_lenm ?_ ?_); · rfl) | refine ev_lenom rfl rfl ?_ | refine ev_lenfm rfl rfl ?_ | refine ev_lenoc rfl rfl rfl ?_ | refine ev_lenc rfl rfl ?_ | refine ev_leno rfl rfl ?_ | refine ev_slen rfl ?_ | refine ev_bd rfl ?_ | refine ev_bd0 rfl ?_) | ((with_reducible refine eK ?_); first | (with_reducible first | refine ev_ct ?_ | refine ev_cf ?_) | ((with_reducible refine ev_cond ?_ ?_) <;> intro h)) | ((with_reducible refine eD ?_); first | refine ev_bd rfl ?_ | refine ev_bd0 rfl ?_) | refine ev_ret rfl ?_)
  all_goals exact ⟨congrArg iI (by unfold left; split <;> omega), rfl⟩
theorem s_toIntS_L (l : List Int) (hl : l.length ≤ 2000000) : ∀ i, i ≤ l.length → ∀ (w : List Int), w.length = l.length → (∀ j, j < i → nth w j = nth l j) → ∀ (k : Int) (c : Nat), k = i →
    Ev (fun n => L88_3 (callF prg n) (n + 1) 0 (n + 1 - c) (.sl 1 (l.map iI)) (.osl 1) (iI k) [.arr false 1 [], .arr false 1 (w.map iI)]) (Is (.osl 0) [.arr false 1 (l.map iI)]) := by
  refine up_ind ?_
  intro i hi ih w hw hp k c hk
  subst hk
  (refine UL88_3 ?_; unfold LB88_3)
  repeat' (first | ((with_reducible refine eB ?_); first | ((with_reducible refine ev_lss ?_ ?_) <;> intro h <;> try (exfalso; omega)) | ((with_reducible refine ev_add ?_ ?_); · omega) | refine ev_bd rfl ?_ | refine ev_bd0 rfl ?_) | ((with_reducible refine eL ?_); first | ((with_reducible refine ev_lenm ?_ ?_); · rfl) | refine ev_lenom rfl rfl ?_ | refine ev_lenfm rfl rfl ?_ | refine ev_lenoc rfl rfl rfl ?_ | refine ev_lenc rfl rfl ?_ | refine ev_leno rfl rfl ?_ | refine ev_slen rfl ?_ | refine ev_bd rfl ?_ | refine ev_bd0 rfl ?_) | ((with_reducible refine eI ?_); first | ((with_reducible refine ev_idxn ?_ ?_ ?_); (· rfl); · omega) | (refine ev_idxon rfl rfl ?_ ?_; (· first | omega | (simp only [List.length_cons, List.length_nil, List.length_map, List.length_append]; omega))) | (refine ev_idxfn rfl rfl ?_ ?_; (focus omega)) | ((with_reducible refine ev_idx ?_ ?_ ?_); (· rfl); · omega) | (refine ev_idxo rfl rfl ?_ ?_; (· first | omega | (simp only [List.length_cons, List.length_nil, List.length_map, List.length_append]; omega))) | (refine ev_idxf rfl rfl ?_ ?_; (focus omega)) | refine ev_bd rfl ?_ | refine ev_bd0 rfl ?_) | ((with_reducible refine eK ?_); first | (with_reducible first | refine ev_ct ?_ | refine ev_cf ?_) | ((with_reducible refine ev_cond ?_ ?_) <;> intro h)) | ((with_reducible refine eO ?_); first | refine ev_bd rfl ?_ | (refine ev_bdB rfl ?_ ?_ <;> intro h <;> try (exfalso; simp_all; done)) | refine ev_bd0 rfl ?_ | (refine ev_ldm rfl ?_ rfl ?_; (focus omega)) | (refine ev_ldmB rfl ?_ rfl ?_ ?_; (focus omega); (all_goals intro h))) | ((with_reducible refine eD ?_); first | refine ev_bd rfl ?_ | refine ev_bd0 rfl ?_ | ( (refine ev_sto (f := iI) (a := nth l i) rfl rfl rfl rfl rfl rfl rfl rfl ?_ rfl ?_; (focus omega)))) | ((with_reducible refine ih ?_ _ ?_ ?_ _ _ ?_) <;> (first | omega | assumption | ((first | (rw [List.length_set]; exact hw) | (intro j hj; rw [nth_set']; split; (rename_i e; rw [e.1]); (rename_i e; exact hp j (by omega))))) | (simp only [*, List.map_append, List.length_append, List.length_cons, List.length_nil, List.map_cons, List.map_nil]; done) | (simp_all; done) | (simp_all; omega))) | refine ev_ret rfl ?_)
  all_goals (obtain rfl : w = l := eq_of_nth hw fun j hj => hp j (by omega))
  all_goals exact ⟨rfl, rfl⟩
theorem s_toIntS (l : List Int) (hl : l.length ≤ 2000000) : Ex (fun m => callF prg m 88 [.sl 1 (l.map iI)] []) (.osl 0) [.arr false 1 (l.map iI)] := by
  refine ev_is.1 ?_
  (refine U88 (nl := 0) rfl ?_; unfold B88)
  repeat' (first | ((with_reducible refine eL ?_); first | ((with_reducible refine ev_lenm ?_ ?_); · rfl) | refine ev_lenom rfl rfl ?_ | refine ev_lenfm rfl rfl ?_ | refine ev_lenoc rfl rfl rfl ?_ | refine ev_lenc rfl rfl ?_ | refine ev_leno rfl rfl ?_ | refine ev_slen rfl ?_ | refine ev_bd rfl ?_ | refine ev_bd0 rfl ?_) | ((with_reducible refine eD ?_); first | refine ev_bd rfl ?_ | refine ev_bd0 rfl ?_ | ( (refine ev_mk (f := iI) (z := 0) rfl rfl rfl ?_ ?_; (focus (dsimp only; omega))))) | ( exact s_toIntS_L l hl 0 (by omega) _ (by simp) (fun j hj => by omega) 0 0 rfl) | refine ev_ret rfl ?_)
theorem s_eqIntS_L (a b : List Int) (hl : a.length = b.length) (h47 : a.length ≤ 2000000) : ∀ i, i ≤ a.length → (∀ j, j < i → nth a j = nth b j) → ∀ (k : Int) (c : Nat), k = i →
    Ev (fun n => L95_4 (callF prg n) (n + 1) 0 (n + 1 - c) (.sl 1 (a.map iI)) (.sl 1 (b.map iI)) (iI k) []) (Is (bB (decide (a = b))) []) := by
  refine up_ind ?_
  intro i hi ih hp k c hk
  subst hk
  (refine UL95_4 ?_; unfold LB95_4)
  repeat' (first | ((with_reducible refine eB ?_); first | ((with_reducible first | refine ev_lss ?_ ?_ | refine ev_neq ?_ ?_) <;> intro h <;> try (exfalso; omega)) | ((with_reducible refine ev_add ?_ ?_); · omega) | refine ev_bd rfl ?_ | refine ev_bd0 rfl ?_) | ((with_reducible refine eL ?_); first | ((with_reducible refine ev_lenm ?_ ?_); · rfl) | refine ev_lenom rfl rfl ?_ | refine ev_lenfm rfl rfl ?_ | refine ev_lenoc rfl rfl rfl ?_ | refine ev_lenc rfl rfl ?_ | refine ev_leno rfl rfl ?_ | refine ev_slen rfl ?_ | refine ev_bd rfl ?_ | refine ev_bd0 rfl ?_) | ((with_reducible refine eI ?_); first | ((with_reducible refine ev_idxn ?_ ?_ ?_); (· rfl); · omega) | (refine ev_idxon rfl rfl ?_ ?_; (· first | omega | (simp only [List.length_cons, List.length_nil, List.length_map, List.length_append]; omega))) | (refine ev_idxfn rfl rfl ?_ ?_; (focus omega)) | ((with_reducible refine ev_idx ?_ ?_ ?_); (· rfl); · omega) | (refine ev_idxo rfl rfl ?_ ?_; (· first | omega | (simp only [List.length_cons, List.length_nil, List.length_map, List.length_append]; omega))) | (refine ev_idxf rfl rfl ?_ ?_; (focus omega)) | refine ev_bd rfl ?_ | refine ev_bd0 rfl ?_) | ((with_reducible refine eK ?_); first | (with_reducible first | refine ev_ct ?_ | refine ev_cf ?_) | ((with_reducible refine ev_cond ?_ ?_) <;> intro h)) | ((with_reducible refine eO ?_); first | refine ev_bd rfl ?_ | (refine ev_bdB rfl ?_ ?_ <;> intro h <;> try (exfalso; simp_all; done)) | refine ev_bd0 rfl ?_ | (refine ev_ldm rfl ?_ rfl ?_; (focus omega)) | (refine ev_ldmB rfl ?_ rfl ?_ ?_; (focus omega); (all_goals intro h))) | ((with_reducible refine eD ?_); first | refine ev_bd rfl ?_ | refine ev_bd0 rfl ?_) | ((with_reducible refine ih ?_ (all_step hp ?_) _ _ ?_) <;> (first | omega | assumption | (simp only [*, List.map_append, List.length_append, List.length_cons, List.length_nil, List.map_cons, List.map_nil]; done) | (simp_all; done) | (simp_all; omega))) | refine ev_ret rfl ?_)
  · exact ⟨congrArg bB (Eq.symm (decide_eq_false fun e => h (by rw [e]))), rfl⟩
  · exact ⟨congrArg bB (Eq.symm (decide_eq_true (eq_of_nth hl fun j hj => hp j (by omega)))), rfl⟩
theorem s_eqIntS (a b : List Int) (h47 : a.length ≤ 2000000) : Ex (fun m => callF prg m 95 [.sl 1 (a.map iI), .sl 1 (b.map iI)] []) (bB (decide (a = b))) [] := by
  refine ev_is.1 ?_
  (refine U95 (nl := 0) rfl ?_; unfold B95)
  repeat' (first | ((with_reducible refine eB ?_); first | ((with_reducible refine ev_neq ?_ ?_) <;> intro h <;> try (exfalso; omega)) | refine ev_bd rfl ?_ | refine ev_bd0 rfl ?_) | ((with_reducible refine eL ?_); first | ((with_reducible refine ev_lenm ?_ ?_); · rfl) | refine ev_lenom rfl rfl ?_ | refine ev_lenfm rfl rfl ?_ | refine ev_lenoc rfl rfl rfl ?_ | refine ev_lenc rfl rfl ?_ | refine ev_leno rfl rfl ?_ | refine ev_slen rfl ?_ | refine ev_bd rfl ?_ | refine ev_bd0 rfl ?_) | ((with_reducible refine eK ?_); first | (with_reducible first | refine ev_ct ?_ | refine ev_cf ?_) | ((with_reducible refine ev_cond ?_ ?_) <;> intro h)) | ((with_reducible refine eD ?_); first | refine ev_bd rfl ?_ | refine ev_bd0 rfl ?_) | ( exact s_eqIntS_L a b (by omega) h47 0 (by omega) (fun j hj => by omega) 0 0 rfl) | refine ev_ret rfl ?_)
  all_goals (refine ⟨congrArg bB (Eq.symm (decide_eq_false fun e => ?_)), rfl⟩; subst e; omega)
def markI (k : Int) (n : Nat) : List Int := (List.range n).map fun i : Nat => k + (i : Int)
theorem markI_len (k : Int) (n : Nat) : (markI k n).length = n := by simp [markI]
theorem markI_nth {k : Int} {n i : Nat} (h : i < n) : nth (markI k n) i = k + i := by
  unfold markI nth
  rw [List.getD_eq_getElem?_getD, List.getElem?_map, List.getElem?_range h]; rfl
theorem s_markIntS_L (k0 : Int) (hk0 : 0 ≤ k0 ∧ k0 ≤ 1152921504606846976) (m : Nat) (hm : m ≤ 2000000) : ∀ i, i ≤ m → ∀ (w : List Int), w.length = m → (∀ j, j < i → nth w j = k0 + j) → ∀ (q k : Int) (c : Nat), k = i → q = k0 + i →
    Ev (fun n => L98_2 (callF prg n) (n + 1) 1 (n + 1 - c) (.osl 0) (iI q) (iI k) [.arr true 1 (w.map iI)]) (Is (iI (k0 + m)) [.arr true 1 ((markI k0 m).map iI)]) := by
  refine up_ind ?_
  intro i hi ih w hw hp q k c hk hq
  subst hk
  (refine UL98_2 ?_; unfold LB98_2)
  repeat' (first | ((with_reducible refine eB ?_); first | ((with_reducible refine ev_lss ?_ ?_) <;> intro h <;> try (exfalso; omega)) | ((with_reducible refine ev_add ?_ ?_); · omega) | refine ev_bd rfl ?_ | refine ev_bd0 rfl ?_) | ((with_reducible refine eL ?_); first | ((with_reducible refine ev_lenm ?_ ?_); · rfl) | refine ev_lenom rfl rfl ?_ | refine ev_lenfm rfl rfl ?_ | refine ev_lenoc rfl rfl rfl ?_ | refine ev_lenc rfl rfl ?_ | refine ev_leno rfl rfl ?_ | refine ev_slen rfl ?_ | refine ev_bd rfl ?_ | refine ev_bd0 rfl ?_) | ((with_reducible refine eI ?_); first | ((with_reducible refine ev_idxn ?_ ?_ ?_); (· rfl); · omega) | (refine ev_idxon rfl rfl ?_ ?_; (· first | omega | (simp only [List.length_cons, List.length_nil, List.length_map, List.length_append]; omega))) | (refine ev_idxfn rfl rfl ?_ ?_; (focus omega)) | ((with_reducible refine ev_idx ?_ ?_ ?_); (· rfl); · omega) | (refine ev_idxo rfl rfl ?_ ?_; (· first | omega | (simp only [List.length_cons, List.length_nil, List.length_map, List.length_append]; omega))) | (refine ev_idxf rfl rfl ?_ ?_; (focus omega)) | refine ev_bd rfl ?_ | refine ev_bd0 rfl ?_) | ((with_reducible refine eK ?_); first | (with_reducible first | refine ev_ct ?_ | refine ev_cf ?_) | ((with_reducible refine ev_cond ?_ ?_) <;> intro h)) | ((with_reducible refine eD ?_); first | refine ev_bd rfl ?_ | refine ev_bd0 rfl ?_ | ( (refine ev_sto (f := iI) (a := q) rfl rfl rfl rfl rfl rfl rfl rfl ?_ rfl ?_; (focus omega)))) | ((with_reducible refine ih ?_ _ ?_ ?_ _ _ _ ?_ ?_) <;> (first | omega | assumption | ((first | (rw [List.length_set]; exact hw) | (intro j hj; rw [nth_set']; split; (rename_i e; rw [← e.1]; omega); (rename_i e; exact hp j (by omega))))) | (simp only [*, List.map_append, List.length_append, List.length_cons, List.length_nil, List.map_cons, List.map_nil]; done) | (simp_all; done) | (simp_all; omega))) | refine ev_ret rfl ?_)
  all_goals (obtain rfl : w = markI k0 m := eq_of_nth (by rw [hw, markI_len]) fun j hj => by rw [markI_nth (by omega)]; exact hp j (by omega))
  all_goals exact ⟨congrArg iI (by omega), rfl⟩
theorem s_markIntS (l : List Int) (k0 : Int) (hk0 : 0 ≤ k0 ∧ k0 ≤ 1152921504606846976) (hl : l.length ≤ 2000000) : Ex (fun m => callF prg m 98 [.osl 0, iI k0] [.arr true 1 (l.map iI)]) (iI (k0 + l.length)) [.arr true 1 ((markI k0 l.length).map iI)] := by
  refine ev_is.1 ?_
  (refine U98 (nl := 1) rfl ?_; unfold B98)
  exact s_markIntS_L k0 hk0 l.length hl 0 (by omega) l rfl (fun j hj => by omega) _ 0 0 rfl (by simp)
end Go.Proofs.YtebaiioejagfoaaGreatDoor
