/-
  DERIVED: THE SHELF's CONTRACTS AT THIS DUMP, IN PLAIN WORDS (tools/lay-plain.mjs out of 'TryzShelf.lean', which tools/lay-shelf.mjs wrote): THE SAME DECLARATIONS UNDER THE SAME NAMES: 'import', 'namespace', 'open', 'def', 'theorem' AND NOTHING ELSE: no command of the shelf's: FOR A HAND-IN. Each laying: the table of numbers ('.._ren') and one theorem, a field a fact of the dump's own or the kernel's comparison; each contract: ONE APPLICATION.
-/
import Derived.Shelf.Small.Wraps
import Derived.Ground.MpProg
import Derived.Shelf.Strings.Search3
import Derived.Shelf.Strings.Count
import Derived.Shelf.Strings.Prefix
import Derived.Test.YtfnjahjbpaoepaaGreatDoorProg
namespace Go.Proofs
open Go.Shelf
def Tryz.lays170_ren : Go.Shelf.Ren := ⟨fun | 170 => 57 | n => n, fun | 70 => 87 | 3 => 3 | 0 => 0 | 72 => 90 | 37 => 88 | 5 => 5 | n => n, fun | n => n⟩
def Tryz.lays169_ren : Go.Shelf.Ren := ⟨fun | 169 => 58 | n => n, fun | 70 => 87 | 9 => 9 | 0 => 0 | 72 => 90 | 37 => 88 | 127 => 194 | 3 => 3 | 5 => 5 | n => n, fun | n => n⟩
def Tryz.lays241_ren : Go.Shelf.Ren := ⟨fun | 241 => 270 | 277 => 325 | n => n, fun | 70 => 87 | 3 => 3 | 0 => 0 | 72 => 90 | 37 => 88 | 5 => 5 | n => n, fun | n => n⟩
def Tryz.lays165_ren : Go.Shelf.Ren := ⟨fun | 165 => 200 | 240 => 152 | 241 => 270 | 276 => 233 | 277 => 325 | n => n, fun | 70 => 87 | 3 => 3 | 0 => 0 | 4 => 4 | 9 => 9 | 20 => 20 | 72 => 90 | 37 => 88 | 164 => 248 | 5 => 5 | n => n, fun | n => n⟩
def Tryz.lays159_ren : Go.Shelf.Ren := ⟨fun | 159 => 209 | 165 => 200 | 166 => 55 | 167 => 276 | 169 => 58 | 230 => 277 | 204 => 278 | 240 => 152 | 241 => 270 | 197 => 320 | 118 => 330 | 168 => 331 | 270 => 332 | 262 => 333 | 276 => 233 | 277 => 325 | 260 => 354 | 242 => 358 | 313 => 359 | 278 => 367 | 274 => 368 | 275 => 369 | n => n, fun | 9 => 9 | 4 => 4 | 3 => 3 | 5 => 5 | 72 => 90 | 0 => 0 | 76 => 94 | 75 => 93 | 107 => 293 | 70 => 87 | 20 => 20 | 37 => 88 | 127 => 194 | 21 => 21 | 105 => 330 | 164 => 248 | 162 => 357 | 203 => 355 | 119 => 326 | 46 => 213 | 139 => 329 | 138 => 328 | 51 => 283 | 160 => 366 | 208 => 374 | 206 => 372 | 80 => 33 | n => n, fun | 13 => 6 | 3 => 1 | 4 => 2 | n => n⟩
def Tryz.lays156_ren : Go.Shelf.Ren := ⟨fun | 156 => 111 | 165 => 200 | 166 => 55 | 169 => 58 | 240 => 152 | 241 => 270 | 276 => 233 | 277 => 325 | n => n, fun | 31 => 85 | 9 => 9 | 3 => 3 | 4 => 4 | 0 => 0 | 20 => 20 | 72 => 90 | 76 => 94 | 70 => 87 | 37 => 88 | 75 => 93 | 127 => 194 | 164 => 248 | 5 => 5 | 80 => 33 | n => n, fun | n => n⟩
def Tryz.lays231_ren : Go.Shelf.Ren := ⟨fun | 231 => 257 | n => n, fun | 9 => 9 | 5 => 5 | 3 => 3 | 4 => 4 | n => n, fun | n => n⟩
def Tryz.lays232_ren : Go.Shelf.Ren := ⟨fun | 232 => 258 | n => n, fun | 9 => 9 | 5 => 5 | 3 => 3 | 4 => 4 | n => n, fun | n => n⟩
def Tryz.lays160_ren : Go.Shelf.Ren := ⟨fun | 160 => 193 | 232 => 258 | 231 => 257 | 227 => 259 | 234 => 261 | 233 => 260 | 236 => 263 | 235 => 262 | 228 => 319 | 271 => 322 | 151 => 321 | 197 => 320 | 120 => 356 | 152 => 355 | 260 => 354 | 137 => 210 | 119 => 366 | 224 => 347 | 225 => 346 | 217 => 279 | 266 => 334 | n => n, fun | 9 => 9 | 4 => 4 | 3 => 3 | 5 => 5 | 117 => 275 | 116 => 274 | 0 => 0 | 124 => 278 | 21 => 21 | 105 => 330 | 46 => 213 | 119 => 326 | 139 => 329 | 138 => 328 | n => n, fun | 3 => 1 | 4 => 2 | n => n⟩
theorem Tryz.lays160 : Go.Proofs.Lays.n160 Tryz.prog Tryz.lays160_ren := {
  mixed := by kernel_rfl
  f119 := Tryz.func366.trans (congrArg some (by kernel_rfl))
  f120 := Tryz.func356.trans (congrArg some (by kernel_rfl))
  f137 := Tryz.func210.trans (congrArg some (by kernel_rfl))
  f151 := Tryz.func321.trans (congrArg some (by kernel_rfl))
  f152 := Tryz.func355.trans (congrArg some (by kernel_rfl))
  f160 := Tryz.func193.trans (congrArg some (by kernel_rfl))
  f197 := Tryz.func320.trans (congrArg some (by kernel_rfl))
  f217 := Tryz.func279.trans (congrArg some (by kernel_rfl))
  f224 := Tryz.func347.trans (congrArg some (by kernel_rfl))
  f225 := Tryz.func346.trans (congrArg some (by kernel_rfl))
  f227 := Tryz.func259.trans (congrArg some (by kernel_rfl))
  f228 := Tryz.func319.trans (congrArg some (by kernel_rfl))
  f231 := Tryz.func257.trans (congrArg some (by kernel_rfl))
  f232 := Tryz.func258.trans (congrArg some (by kernel_rfl))
  f233 := Tryz.func260.trans (congrArg some (by kernel_rfl))
  f234 := Tryz.func261.trans (congrArg some (by kernel_rfl))
  f235 := Tryz.func262.trans (congrArg some (by kernel_rfl))
  f236 := Tryz.func263.trans (congrArg some (by kernel_rfl))
  f260 := Tryz.func354.trans (congrArg some (by kernel_rfl))
  f266 := Tryz.func334.trans (congrArg some (by kernel_rfl))
  f271 := Tryz.func322.trans (congrArg some (by kernel_rfl))
  t0 := Tryz.underlying0
  a0 := Tryz.isAgg0
  z0 := Tryz.sizeOf0
  v0 := Tryz.zeroValue0
  t3 := Tryz.underlying3
  a3 := Tryz.isAgg3
  z3 := Tryz.sizeOf3
  v3 := Tryz.zeroValue3
  t4 := Tryz.underlying4
  a4 := Tryz.isAgg4
  z4 := Tryz.sizeOf4
  v4 := Tryz.zeroValue4
  t5 := Tryz.underlying5
  a5 := Tryz.isAgg5
  z5 := Tryz.sizeOf5
  v5 := Tryz.zeroValue5
  t9 := Tryz.underlying9
  a9 := Tryz.isAgg9
  z9 := Tryz.sizeOf9
  v9 := Tryz.zeroValue9
  t21 := Tryz.underlying21
  a21 := Tryz.isAgg21
  z21 := Tryz.sizeOf21
  v21 := Tryz.zeroValue21
  t46 := Tryz.underlying213
  a46 := Tryz.isAgg213
  z46 := Tryz.sizeOf213
  v46 := Tryz.zeroValue213
  t105 := Tryz.underlying330
  a105 := Tryz.isAgg330
  z105 := Tryz.sizeOf330
  v105 := Tryz.zeroValue330
  t116 := Tryz.underlying274
  a116 := Tryz.isAgg274
  z116 := Tryz.sizeOf274
  t117 := Tryz.underlying275
  a117 := Tryz.isAgg275
  z117 := Tryz.sizeOf275
  v117 := Tryz.zeroValue275
  t119 := Tryz.underlying326
  a119 := Tryz.isAgg326
  z119 := Tryz.sizeOf326
  t124 := Tryz.underlying278
  a124 := Tryz.isAgg278
  z124 := Tryz.sizeOf278
  v124 := Tryz.zeroValue278
  t138 := Tryz.underlying328
  a138 := Tryz.isAgg328
  z138 := Tryz.sizeOf328
  v138 := Tryz.zeroValue328
  t139 := Tryz.underlying329
  a139 := Tryz.isAgg329
  z139 := Tryz.sizeOf329
  v139 := Tryz.zeroValue329
  g3 := by kernel_rfl
  g4 := by kernel_rfl }
def Tryz.lays118_ren : Go.Shelf.Ren := ⟨fun | 118 => 330 | n => n, fun | 21 => 21 | 3 => 3 | 4 => 4 | n => n, fun | n => n⟩
def Tryz.lays119_ren : Go.Shelf.Ren := ⟨fun | 119 => 366 | n => n, fun | 21 => 21 | 4 => 4 | n => n, fun | n => n⟩
def Tryz.lays120_ren : Go.Shelf.Ren := ⟨fun | 120 => 356 | n => n, fun | 5 => 5 | 4 => 4 | n => n, fun | n => n⟩
def Tryz.lays128_ren : Go.Shelf.Ren := ⟨fun | 128 => 293 | n => n, fun | 51 => 283 | 3 => 3 | 4 => 4 | 46 => 213 | 5 => 5 | 9 => 9 | n => n, fun | n => n⟩
def Tryz.lays125_ren : Go.Shelf.Ren := ⟨fun | 125 => 225 | 128 => 293 | 129 => 294 | n => n, fun | 46 => 213 | 3 => 3 | 51 => 283 | 53 => 37 | 4 => 4 | 5 => 5 | 9 => 9 | n => n, fun | n => n⟩
def Tryz.lays213_ren : Go.Shelf.Ren := ⟨fun | 213 => 161 | 265 => 236 | n => n, fun | 9 => 9 | 3 => 3 | n => n, fun | n => n⟩
def Tryz.lays106_ren : Go.Shelf.Ren := ⟨fun | 106 => 64 | 213 => 161 | 265 => 236 | n => n, fun | 9 => 9 | 3 => 3 | n => n, fun | n => n⟩
def Tryz.lays137_ren : Go.Shelf.Ren := ⟨fun | 137 => 210 | 217 => 279 | 266 => 334 | n => n, fun | 9 => 9 | 5 => 5 | 3 => 3 | n => n, fun | n => n⟩
def Tryz.lays210_ren : Go.Shelf.Ren := ⟨fun | 210 => 323 | 206 => 269 | n => n, fun | 9 => 9 | 4 => 4 | 3 => 3 | n => n, fun | n => n⟩
def Tryz.lays103_ren : Go.Shelf.Ren := ⟨fun | 103 => 264 | 210 => 323 | 206 => 269 | n => n, fun | 9 => 9 | 4 => 4 | 24 => 279 | 3 => 3 | n => n, fun | n => n⟩
theorem Tryz.lays103 : Go.Proofs.Lays.n103 Tryz.prog Tryz.lays103_ren := {
  mixed := by kernel_rfl
  f103 := Tryz.func264.trans (congrArg some (by kernel_rfl))
  f206 := Tryz.func269.trans (congrArg some (by kernel_rfl))
  f210 := Tryz.func323.trans (congrArg some (by kernel_rfl))
  t3 := Tryz.underlying3
  a3 := Tryz.isAgg3
  z3 := Tryz.sizeOf3
  v3 := Tryz.zeroValue3
  t4 := Tryz.underlying4
  a4 := Tryz.isAgg4
  z4 := Tryz.sizeOf4
  v4 := Tryz.zeroValue4
  t9 := Tryz.underlying9
  a9 := Tryz.isAgg9
  z9 := Tryz.sizeOf9
  v9 := Tryz.zeroValue9
  t24 := Tryz.underlying279
  a24 := Tryz.isAgg279
  z24 := Tryz.sizeOf279
  v24 := Tryz.zeroValue279 }
open Go.RowKit in
/-- strings.CutPrefix: "CutPrefix returns s without the provided leading prefix string and reports whether it found the prefix. If s doesn't start with prefix, CutPrefix returns s, false. If prefix is the empty string, CutPrefix returns s, true.": IT RETURNS '(Lib.trimPrefix s p, Lib.hasPrefix s p)'; the world is as it was. (LAID: no walk: one application.) -/
theorem Tryz.strings_CutPrefix (s p : ByteArray) (w : World) :
    Calls Tryz.prog 264 #[.string s, .string p] w fun e w' => e = .returned (.tuple #[.string ⟨(Lib.trimPrefix s.data.toList p.data.toList).toArray⟩, .bool (Lib.hasPrefix s.data.toList p.data.toList)]) ∧ w' = w := Any.strings_CutPrefix Tryz.lays103 s p w
def Tryz.lays215_ren : Go.Shelf.Ren := ⟨fun | 215 => 226 | n => n, fun | 3 => 3 | 4 => 4 | n => n, fun | n => n⟩
def Tryz.lays122_ren : Go.Shelf.Ren := ⟨fun | 122 => 139 | 215 => 226 | n => n, fun | 3 => 3 | 4 => 4 | n => n, fun | n => n⟩
def Tryz.lays244_ren : Go.Shelf.Ren := ⟨fun | 244 => 241 | 247 => 308 | 287 => 350 | 321 => 364 | 322 => 365 | n => n, fun | 9 => 9 | 3 => 3 | 75 => 93 | 4 => 4 | 5 => 5 | 167 => 317 | 37 => 88 | 0 => 0 | 85 => 318 | 2 => 2 | 53 => 37 | 175 => 348 | 46 => 213 | 21 => 21 | 80 => 33 | n => n, fun | n => n⟩
def Tryz.lays172_ren : Go.Shelf.Ren := ⟨fun | 172 => 168 | 244 => 241 | 245 => 242 | 247 => 308 | 279 => 309 | 280 => 310 | 281 => 311 | 282 => 312 | 287 => 350 | 316 => 351 | 171 => 56 | 205 => 352 | 321 => 364 | 322 => 365 | 243 => 153 | 246 => 234 | 283 => 298 | 284 => 299 | 285 => 300 | 286 => 301 | 129 => 294 | 317 => 340 | 318 => 341 | 319 => 342 | 320 => 343 | 337 => 361 | 338 => 362 | n => n, fun | 9 => 9 | 3 => 3 | 75 => 93 | 76 => 94 | 4 => 4 | 5 => 5 | 167 => 317 | 37 => 88 | 0 => 0 | 85 => 318 | 2 => 2 | 168 => 320 | 53 => 37 | 175 => 348 | 46 => 213 | 210 => 351 | 127 => 194 | 145 => 364 | 143 => 362 | 21 => 21 | 171 => 308 | 173 => 310 | 212 => 345 | 51 => 283 | 20 => 20 | 213 => 346 | 232 => 369 | 233 => 370 | 80 => 33 | n => n, fun | 15 => 4 | 16 => 5 | 17 => 3 | 18 => 7 | 19 => 8 | n => n⟩
def Tryz.lays129_ren : Go.Shelf.Ren := ⟨fun | 129 => 294 | n => n, fun | 53 => 37 | 3 => 3 | 4 => 4 | 46 => 213 | 5 => 5 | 9 => 9 | n => n, fun | n => n⟩
def Tryz.lays317_ren : Go.Shelf.Ren := ⟨fun | 317 => 340 | n => n, fun | 3 => 3 | 46 => 213 | n => n, fun | n => n⟩
def Tryz.lays318_ren : Go.Shelf.Ren := ⟨fun | 318 => 341 | n => n, fun | 3 => 3 | 4 => 4 | n => n, fun | n => n⟩
def Tryz.lays283_ren : Go.Shelf.Ren := ⟨fun | 283 => 298 | n => n, fun | 3 => 3 | 9 => 9 | 4 => 4 | n => n, fun | n => n⟩
def Tryz.laysM284_ren : Go.Shelf.Ren := ⟨fun | 284 => 299 | 129 => 294 | 317 => 340 | 318 => 341 | n => n, fun | 53 => 37 | 3 => 3 | 212 => 345 | 0 => 0 | 4 => 4 | 46 => 213 | 5 => 5 | 9 => 9 | n => n, fun | 17 => 3 | n => n⟩
def Tryz.lays285_ren : Go.Shelf.Ren := ⟨fun | 285 => 300 | n => n, fun | 37 => 88 | 53 => 37 | 3 => 3 | 4 => 4 | 51 => 283 | 9 => 9 | 5 => 5 | 0 => 0 | n => n, fun | n => n⟩
def Tryz.laysM246_ren : Go.Shelf.Ren := ⟨fun | 246 => 234 | 283 => 298 | 284 => 299 | 285 => 300 | 286 => 301 | 129 => 294 | 317 => 340 | 318 => 341 | 319 => 342 | 320 => 343 | 337 => 361 | 338 => 362 | n => n, fun | 2 => 2 | 3 => 3 | 9 => 9 | 4 => 4 | 171 => 308 | 0 => 0 | 53 => 37 | 37 => 88 | 5 => 5 | 173 => 310 | 212 => 345 | 51 => 283 | 20 => 20 | 213 => 346 | 46 => 213 | 232 => 369 | 233 => 370 | n => n, fun | 17 => 3 | 18 => 7 | 19 => 8 | n => n⟩
def Tryz.lays246_ren : Go.Shelf.Ren := ⟨fun | 246 => 234 | 283 => 298 | 284 => 299 | 285 => 300 | 286 => 301 | 129 => 294 | 317 => 340 | 318 => 341 | 319 => 342 | 320 => 343 | 337 => 361 | 338 => 362 | n => n, fun | 2 => 2 | 3 => 3 | 9 => 9 | 4 => 4 | 171 => 308 | 0 => 0 | 53 => 37 | 37 => 88 | 5 => 5 | 173 => 310 | 212 => 345 | 51 => 283 | 20 => 20 | 213 => 346 | 46 => 213 | 232 => 369 | 233 => 370 | n => n, fun | 17 => 3 | 18 => 7 | 19 => 8 | n => n⟩
def Tryz.laysM243_ren : Go.Shelf.Ren := ⟨fun | 243 => 153 | 246 => 234 | 283 => 298 | 284 => 299 | 285 => 300 | 286 => 301 | 129 => 294 | 317 => 340 | 318 => 341 | 319 => 342 | 320 => 343 | 337 => 361 | 338 => 362 | n => n, fun | 3 => 3 | 9 => 9 | 2 => 2 | 4 => 4 | 171 => 308 | 0 => 0 | 53 => 37 | 37 => 88 | 5 => 5 | 173 => 310 | 212 => 345 | 51 => 283 | 20 => 20 | 213 => 346 | 46 => 213 | 232 => 369 | 233 => 370 | n => n, fun | 17 => 3 | 18 => 7 | 19 => 8 | n => n⟩
def Tryz.lays243_ren : Go.Shelf.Ren := ⟨fun | 243 => 153 | 246 => 234 | 283 => 298 | 284 => 299 | 285 => 300 | 286 => 301 | 129 => 294 | 317 => 340 | 318 => 341 | 319 => 342 | 320 => 343 | 337 => 361 | 338 => 362 | n => n, fun | 3 => 3 | 9 => 9 | 2 => 2 | 4 => 4 | 171 => 308 | 0 => 0 | 53 => 37 | 37 => 88 | 5 => 5 | 173 => 310 | 212 => 345 | 51 => 283 | 20 => 20 | 213 => 346 | 46 => 213 | 232 => 369 | 233 => 370 | n => n, fun | 17 => 3 | 18 => 7 | 19 => 8 | n => n⟩
def Tryz.laysM171_ren : Go.Shelf.Ren := ⟨fun | 171 => 56 | 243 => 153 | 246 => 234 | 283 => 298 | 284 => 299 | 285 => 300 | 286 => 301 | 129 => 294 | 317 => 340 | 318 => 341 | 319 => 342 | 320 => 343 | 337 => 361 | 338 => 362 | n => n, fun | 3 => 3 | 9 => 9 | 2 => 2 | 4 => 4 | 171 => 308 | 0 => 0 | 53 => 37 | 37 => 88 | 5 => 5 | 173 => 310 | 212 => 345 | 51 => 283 | 20 => 20 | 213 => 346 | 46 => 213 | 232 => 369 | 233 => 370 | n => n, fun | 17 => 3 | 18 => 7 | 19 => 8 | n => n⟩
def Tryz.lays171_ren : Go.Shelf.Ren := ⟨fun | 171 => 56 | 243 => 153 | 246 => 234 | 283 => 298 | 284 => 299 | 285 => 300 | 286 => 301 | 129 => 294 | 317 => 340 | 318 => 341 | 319 => 342 | 320 => 343 | 337 => 361 | 338 => 362 | n => n, fun | 3 => 3 | 9 => 9 | 2 => 2 | 4 => 4 | 171 => 308 | 0 => 0 | 53 => 37 | 37 => 88 | 5 => 5 | 173 => 310 | 212 => 345 | 51 => 283 | 20 => 20 | 213 => 346 | 46 => 213 | 232 => 369 | 233 => 370 | n => n, fun | 17 => 3 | 18 => 7 | 19 => 8 | n => n⟩
def Tryz.lays247_ren : Go.Shelf.Ren := ⟨fun | 247 => 308 | 287 => 350 | 321 => 364 | 322 => 365 | n => n, fun | 9 => 9 | 3 => 3 | 2 => 2 | 75 => 93 | 4 => 4 | 167 => 317 | 5 => 5 | 53 => 37 | 175 => 348 | 46 => 213 | 37 => 88 | 0 => 0 | 21 => 21 | 80 => 33 | n => n, fun | n => n⟩
def Tryz.laysM316_ren : Go.Shelf.Ren := ⟨fun | 316 => 351 | n => n, fun | 9 => 9 | 3 => 3 | 4 => 4 | 37 => 88 | 0 => 0 | 127 => 194 | 5 => 5 | n => n, fun | n => n⟩
def Tryz.laysM279_ren : Go.Shelf.Ren := ⟨fun | 279 => 309 | 316 => 351 | n => n, fun | 9 => 9 | 168 => 320 | 75 => 93 | 210 => 351 | 3 => 3 | 4 => 4 | 37 => 88 | 0 => 0 | 127 => 194 | 80 => 33 | 5 => 5 | n => n, fun | 15 => 4 | n => n⟩
def Tryz.laysC245_ren : Go.Shelf.Ren := ⟨fun | 245 => 242 | 279 => 309 | 280 => 310 | 281 => 311 | 282 => 312 | 316 => 351 | 171 => 56 | 205 => 352 | 243 => 153 | 246 => 234 | 283 => 298 | 284 => 299 | 285 => 300 | 286 => 301 | 129 => 294 | 317 => 340 | 318 => 341 | 319 => 342 | 320 => 343 | 337 => 361 | 338 => 362 | n => n, fun | 9 => 9 | 3 => 3 | 75 => 93 | 167 => 317 | 4 => 4 | 168 => 320 | 210 => 351 | 37 => 88 | 0 => 0 | 127 => 194 | 145 => 364 | 143 => 362 | 2 => 2 | 171 => 308 | 53 => 37 | 5 => 5 | 173 => 310 | 212 => 345 | 51 => 283 | 20 => 20 | 213 => 346 | 46 => 213 | 232 => 369 | 233 => 370 | 80 => 33 | n => n, fun | 15 => 4 | 16 => 5 | 17 => 3 | 18 => 7 | 19 => 8 | n => n⟩
def Tryz.lays321_ren : Go.Shelf.Ren := ⟨fun | 321 => 364 | n => n, fun | 5 => 5 | n => n, fun | n => n⟩
def Tryz.lays287_ren : Go.Shelf.Ren := ⟨fun | 287 => 350 | 321 => 364 | 322 => 365 | n => n, fun | 9 => 9 | 3 => 3 | 53 => 37 | 75 => 93 | 4 => 4 | 167 => 317 | 5 => 5 | 46 => 213 | 37 => 88 | 0 => 0 | 21 => 21 | 80 => 33 | n => n, fun | n => n⟩
def Tryz.laysC247_ren : Go.Shelf.Ren := ⟨fun | 247 => 308 | 287 => 350 | 321 => 364 | 322 => 365 | n => n, fun | 9 => 9 | 3 => 3 | 2 => 2 | 75 => 93 | 4 => 4 | 167 => 317 | 5 => 5 | 53 => 37 | 175 => 348 | 46 => 213 | 37 => 88 | 0 => 0 | 21 => 21 | 80 => 33 | n => n, fun | n => n⟩
def Tryz.laysC244_ren : Go.Shelf.Ren := ⟨fun | 244 => 241 | 247 => 308 | 287 => 350 | 321 => 364 | 322 => 365 | n => n, fun | 9 => 9 | 3 => 3 | 75 => 93 | 4 => 4 | 5 => 5 | 167 => 317 | 37 => 88 | 0 => 0 | 85 => 318 | 2 => 2 | 53 => 37 | 175 => 348 | 46 => 213 | 21 => 21 | 80 => 33 | n => n, fun | n => n⟩
def Tryz.laysM280_ren : Go.Shelf.Ren := ⟨fun | 280 => 310 | 316 => 351 | n => n, fun | 9 => 9 | 168 => 320 | 75 => 93 | 210 => 351 | 3 => 3 | 4 => 4 | 37 => 88 | 0 => 0 | 127 => 194 | 80 => 33 | 5 => 5 | n => n, fun | 16 => 5 | n => n⟩
def Tryz.laysC172_ren : Go.Shelf.Ren := ⟨fun | 172 => 168 | 244 => 241 | 245 => 242 | 247 => 308 | 279 => 309 | 280 => 310 | 281 => 311 | 282 => 312 | 287 => 350 | 316 => 351 | 171 => 56 | 205 => 352 | 321 => 364 | 322 => 365 | 243 => 153 | 246 => 234 | 283 => 298 | 284 => 299 | 285 => 300 | 286 => 301 | 129 => 294 | 317 => 340 | 318 => 341 | 319 => 342 | 320 => 343 | 337 => 361 | 338 => 362 | n => n, fun | 9 => 9 | 3 => 3 | 75 => 93 | 76 => 94 | 4 => 4 | 5 => 5 | 167 => 317 | 37 => 88 | 0 => 0 | 85 => 318 | 2 => 2 | 168 => 320 | 53 => 37 | 175 => 348 | 46 => 213 | 210 => 351 | 127 => 194 | 145 => 364 | 143 => 362 | 21 => 21 | 171 => 308 | 173 => 310 | 212 => 345 | 51 => 283 | 20 => 20 | 213 => 346 | 232 => 369 | 233 => 370 | 80 => 33 | n => n, fun | 15 => 4 | 16 => 5 | 17 => 3 | 18 => 7 | 19 => 8 | n => n⟩
def Tryz.laysPu14_ren : Go.Shelf.Ren := ⟨fun | 14 => 349 | 16 => 350 | 17 => 242 | 19 => 364 | 20 => 365 | 21 => 309 | 22 => 310 | 23 => 311 | 24 => 312 | 25 => 351 | 27 => 56 | 26 => 352 | 28 => 153 | 29 => 234 | 30 => 298 | 31 => 299 | 32 => 300 | 33 => 301 | 35 => 294 | 34 => 340 | 36 => 341 | 37 => 342 | 38 => 343 | 39 => 361 | 40 => 362 | n => n, fun | 9 => 9 | 3 => 3 | 22 => 37 | 24 => 93 | 25 => 348 | 4 => 4 | 34 => 317 | 5 => 5 | 36 => 213 | 37 => 88 | 0 => 0 | 39 => 320 | 21 => 21 | 44 => 351 | 47 => 194 | 50 => 364 | 48 => 362 | 2 => 2 | 52 => 308 | 55 => 310 | 59 => 345 | 60 => 283 | 20 => 20 | 61 => 346 | 65 => 369 | 66 => 370 | 67 => 33 | n => n, fun | 0 => 4 | 1 => 5 | 2 => 3 | 3 => 7 | 4 => 8 | n => n⟩
def Tryz.lays217_ren : Go.Shelf.Ren := ⟨fun | 217 => 279 | 266 => 334 | n => n, fun | 9 => 9 | 5 => 5 | 3 => 3 | n => n, fun | n => n⟩
def Tryz.lays224_ren : Go.Shelf.Ren := ⟨fun | 224 => 347 | n => n, fun | 3 => 3 | n => n, fun | n => n⟩
def Tryz.lays314_ren : Go.Shelf.Ren := ⟨fun | 314 => 363 | n => n, fun | 9 => 9 | 51 => 283 | 3 => 3 | 4 => 4 | 5 => 5 | 46 => 213 | n => n, fun | n => n⟩
def Tryz.lays267_ren : Go.Shelf.Ren := ⟨fun | 267 => 348 | 314 => 363 | n => n, fun | 9 => 9 | 3 => 3 | 146 => 284 | 51 => 283 | 4 => 4 | 5 => 5 | 46 => 213 | n => n, fun | n => n⟩
def Tryz.lays219_ren : Go.Shelf.Ren := ⟨fun | 219 => 305 | 217 => 279 | 225 => 346 | 224 => 347 | 267 => 348 | 266 => 334 | 314 => 363 | n => n, fun | 9 => 9 | 3 => 3 | 4 => 4 | 5 => 5 | 46 => 213 | 146 => 284 | 51 => 283 | n => n, fun | 1 => 0 | n => n⟩
def Tryz.lays143_ren : Go.Shelf.Ren := ⟨fun | 143 => 255 | 219 => 305 | 217 => 279 | 225 => 346 | 224 => 347 | 267 => 348 | 266 => 334 | 314 => 363 | n => n, fun | 9 => 9 | 3 => 3 | 4 => 4 | 5 => 5 | 46 => 213 | 146 => 284 | 51 => 283 | n => n, fun | 1 => 0 | n => n⟩
theorem Tryz.lays143 : Go.Proofs.Lays.n143 Tryz.prog Tryz.lays143_ren := {
  mixed := by kernel_rfl
  f143 := Tryz.func255.trans (congrArg some (by kernel_rfl))
  f217 := Tryz.func279.trans (congrArg some (by kernel_rfl))
  f219 := Tryz.func305.trans (congrArg some (by kernel_rfl))
  f224 := Tryz.func347.trans (congrArg some (by kernel_rfl))
  f225 := Tryz.func346.trans (congrArg some (by kernel_rfl))
  f266 := Tryz.func334.trans (congrArg some (by kernel_rfl))
  f267 := Tryz.func348.trans (congrArg some (by kernel_rfl))
  f314 := Tryz.func363.trans (congrArg some (by kernel_rfl))
  t3 := Tryz.underlying3
  a3 := Tryz.isAgg3
  z3 := Tryz.sizeOf3
  v3 := Tryz.zeroValue3
  t4 := Tryz.underlying4
  a4 := Tryz.isAgg4
  z4 := Tryz.sizeOf4
  v4 := Tryz.zeroValue4
  t5 := Tryz.underlying5
  a5 := Tryz.isAgg5
  z5 := Tryz.sizeOf5
  v5 := Tryz.zeroValue5
  t9 := Tryz.underlying9
  a9 := Tryz.isAgg9
  z9 := Tryz.sizeOf9
  v9 := Tryz.zeroValue9
  t46 := Tryz.underlying213
  a46 := Tryz.isAgg213
  z46 := Tryz.sizeOf213
  v46 := Tryz.zeroValue213
  t51 := Tryz.underlying283
  a51 := Tryz.isAgg283
  z51 := Tryz.sizeOf283
  v51 := Tryz.zeroValue283
  t146 := Tryz.underlying284
  a146 := Tryz.isAgg284
  z146 := Tryz.sizeOf284
  v146 := Tryz.zeroValue284
  g1 := by kernel_rfl }
open Go.RowKit Go.Lib in
/-- strings.Index: "Index returns the index of the first instance of substr in s, or -1 if substr is not present in s.": AT A substr OF ONE BYTE c: IT RETURNS 'Lib.indexByte s c'; the world is as it was. (LAID: no walk: one application.) -/
theorem Tryz.strings_Index_one (s : ByteArray) (c : UInt8) (w : World) :
    Calls Tryz.prog 255 #[.string s, .string ⟨#[c]⟩] w fun e w' => e = .returned (.int .i64 (Lib.indexByte s.data.toList c)) ∧ w' = w := Any.strings_Index_one Tryz.lays143 s c w
def Tryz.lays144_ren : Go.Shelf.Ren := ⟨fun | 144 => 189 | 143 => 255 | 219 => 305 | 217 => 279 | 225 => 346 | 224 => 347 | 267 => 348 | 266 => 334 | 314 => 363 | n => n, fun | 9 => 9 | 4 => 4 | 3 => 3 | 5 => 5 | 46 => 213 | 146 => 284 | 51 => 283 | n => n, fun | 1 => 0 | n => n⟩
theorem Tryz.lays144 : Go.Proofs.Lays.n144 Tryz.prog Tryz.lays144_ren := {
  mixed := by kernel_rfl
  f143 := Tryz.func255.trans (congrArg some (by kernel_rfl))
  f144 := Tryz.func189.trans (congrArg some (by kernel_rfl))
  f217 := Tryz.func279.trans (congrArg some (by kernel_rfl))
  f219 := Tryz.func305.trans (congrArg some (by kernel_rfl))
  f224 := Tryz.func347.trans (congrArg some (by kernel_rfl))
  f225 := Tryz.func346.trans (congrArg some (by kernel_rfl))
  f266 := Tryz.func334.trans (congrArg some (by kernel_rfl))
  f267 := Tryz.func348.trans (congrArg some (by kernel_rfl))
  f314 := Tryz.func363.trans (congrArg some (by kernel_rfl))
  t3 := Tryz.underlying3
  a3 := Tryz.isAgg3
  z3 := Tryz.sizeOf3
  v3 := Tryz.zeroValue3
  t4 := Tryz.underlying4
  a4 := Tryz.isAgg4
  z4 := Tryz.sizeOf4
  v4 := Tryz.zeroValue4
  t5 := Tryz.underlying5
  a5 := Tryz.isAgg5
  z5 := Tryz.sizeOf5
  v5 := Tryz.zeroValue5
  t9 := Tryz.underlying9
  a9 := Tryz.isAgg9
  z9 := Tryz.sizeOf9
  v9 := Tryz.zeroValue9
  t46 := Tryz.underlying213
  a46 := Tryz.isAgg213
  z46 := Tryz.sizeOf213
  v46 := Tryz.zeroValue213
  t51 := Tryz.underlying283
  a51 := Tryz.isAgg283
  z51 := Tryz.sizeOf283
  v51 := Tryz.zeroValue283
  t146 := Tryz.underlying284
  a146 := Tryz.isAgg284
  z146 := Tryz.sizeOf284
  v146 := Tryz.zeroValue284
  g1 := by kernel_rfl }
open Go.RowKit Go.Lib in
/-- strings.Contains: "Contains reports whether substr is within s.": IT RETURNS 'Lib.contains s substr'; the world is as it was. (LAID: no walk: one application.) -/
theorem Tryz.strings_Contains (s sub : ByteArray) (m : Int) (w : World) (hs : s.size < 4294967281) (hm : w.cell? ⟨0, 0, none⟩ = some (.int .i64 m)) :
    Calls Tryz.prog 189 #[.string s, .string sub] w fun e w' => e = .returned (.bool (Lib.contains s.data.toList sub.data.toList)) ∧ w' = w := Any.strings_Contains Tryz.lays144 s sub m w hs hm
def Tryz.lays220_ren : Go.Shelf.Ren := ⟨fun | 220 => 239 | 219 => 305 | 217 => 279 | 225 => 346 | 224 => 347 | 267 => 348 | 266 => 334 | 314 => 363 | n => n, fun | 9 => 9 | 4 => 4 | 3 => 3 | 5 => 5 | 46 => 213 | 146 => 284 | 51 => 283 | n => n, fun | 1 => 0 | n => n⟩
def Tryz.lays145_ren : Go.Shelf.Ren := ⟨fun | 145 => 165 | 220 => 239 | 219 => 305 | 217 => 279 | 225 => 346 | 224 => 347 | 267 => 348 | 266 => 334 | 314 => 363 | n => n, fun | 9 => 9 | 4 => 4 | 59 => 204 | 3 => 3 | 5 => 5 | 46 => 213 | 146 => 284 | 51 => 283 | n => n, fun | 1 => 0 | n => n⟩
def Tryz.lays138_ren : Go.Shelf.Ren := ⟨fun | 138 => 304 | 195 => 344 | 218 => 345 | 143 => 255 | 219 => 305 | 217 => 279 | 225 => 346 | 224 => 347 | 267 => 348 | 266 => 334 | 314 => 363 | n => n, fun | 9 => 9 | 3 => 3 | 4 => 4 | 5 => 5 | 0 => 0 | 46 => 213 | 146 => 284 | 51 => 283 | n => n, fun | 1 => 0 | n => n⟩
theorem Tryz.lays138 : Go.Proofs.Lays.n138 Tryz.prog Tryz.lays138_ren := {
  mixed := by kernel_rfl
  f138 := Tryz.func304.trans (congrArg some (by kernel_rfl))
  f143 := Tryz.func255.trans (congrArg some (by kernel_rfl))
  f195 := Tryz.func344.trans (congrArg some (by kernel_rfl))
  f217 := Tryz.func279.trans (congrArg some (by kernel_rfl))
  f218 := Tryz.func345.trans (congrArg some (by kernel_rfl))
  f219 := Tryz.func305.trans (congrArg some (by kernel_rfl))
  f224 := Tryz.func347.trans (congrArg some (by kernel_rfl))
  f225 := Tryz.func346.trans (congrArg some (by kernel_rfl))
  f266 := Tryz.func334.trans (congrArg some (by kernel_rfl))
  f267 := Tryz.func348.trans (congrArg some (by kernel_rfl))
  f314 := Tryz.func363.trans (congrArg some (by kernel_rfl))
  t0 := Tryz.underlying0
  a0 := Tryz.isAgg0
  z0 := Tryz.sizeOf0
  v0 := Tryz.zeroValue0
  t3 := Tryz.underlying3
  a3 := Tryz.isAgg3
  z3 := Tryz.sizeOf3
  v3 := Tryz.zeroValue3
  t4 := Tryz.underlying4
  a4 := Tryz.isAgg4
  z4 := Tryz.sizeOf4
  v4 := Tryz.zeroValue4
  t5 := Tryz.underlying5
  a5 := Tryz.isAgg5
  z5 := Tryz.sizeOf5
  v5 := Tryz.zeroValue5
  t9 := Tryz.underlying9
  a9 := Tryz.isAgg9
  z9 := Tryz.sizeOf9
  v9 := Tryz.zeroValue9
  t46 := Tryz.underlying213
  a46 := Tryz.isAgg213
  z46 := Tryz.sizeOf213
  v46 := Tryz.zeroValue213
  t51 := Tryz.underlying283
  a51 := Tryz.isAgg283
  z51 := Tryz.sizeOf283
  v51 := Tryz.zeroValue283
  t146 := Tryz.underlying284
  a146 := Tryz.isAgg284
  z146 := Tryz.sizeOf284
  v146 := Tryz.zeroValue284
  g1 := by kernel_rfl }
open Go.RowKit Go.Lib in
/-- strings.Count AT A substr OF ONE BYTE ('hp'): "Count counts the number of non-overlapping instances of substr in s.": IT RETURNS 'Lib.countByte s (that byte)'; the world is as it was. ✋ NO CONTRACT HERE YET at an empty substr (utf8.RuneCountInString) or at a longer one (a loop over strings.Index). (LAID: no walk: one application.) -/
theorem Tryz.strings_Count_one (s : ByteArray) (c : UInt8) (w : World) :
    Calls Tryz.prog 304 #[.string s, .string ⟨#[c]⟩] w fun e w' => e = .returned (.int .i64 (Lib.countByte s.data.toList c)) ∧ w' = w := Any.strings_Count_one Tryz.lays138 s c w
def Tryz.laysM219_ren : Go.Shelf.Ren := ⟨fun | 219 => 305 | 217 => 279 | 225 => 346 | 224 => 347 | 267 => 348 | 266 => 334 | 314 => 363 | n => n, fun | 9 => 9 | 3 => 3 | 4 => 4 | 5 => 5 | 46 => 213 | 146 => 284 | 51 => 283 | n => n, fun | 1 => 0 | n => n⟩
def Tryz.laysM143_ren : Go.Shelf.Ren := ⟨fun | 143 => 255 | 219 => 305 | 217 => 279 | 225 => 346 | 224 => 347 | 267 => 348 | 266 => 334 | 314 => 363 | n => n, fun | 9 => 9 | 3 => 3 | 4 => 4 | 5 => 5 | 46 => 213 | 146 => 284 | 51 => 283 | n => n, fun | 1 => 0 | n => n⟩
def Tryz.laysM144_ren : Go.Shelf.Ren := ⟨fun | 144 => 189 | 143 => 255 | 219 => 305 | 217 => 279 | 225 => 346 | 224 => 347 | 267 => 348 | 266 => 334 | 314 => 363 | n => n, fun | 9 => 9 | 4 => 4 | 3 => 3 | 5 => 5 | 46 => 213 | 146 => 284 | 51 => 283 | n => n, fun | 1 => 0 | n => n⟩
def Tryz.laysM220_ren : Go.Shelf.Ren := ⟨fun | 220 => 239 | 219 => 305 | 217 => 279 | 225 => 346 | 224 => 347 | 267 => 348 | 266 => 334 | 314 => 363 | n => n, fun | 9 => 9 | 4 => 4 | 3 => 3 | 5 => 5 | 46 => 213 | 146 => 284 | 51 => 283 | n => n, fun | 1 => 0 | n => n⟩
def Tryz.laysM145_ren : Go.Shelf.Ren := ⟨fun | 145 => 165 | 220 => 239 | 219 => 305 | 217 => 279 | 225 => 346 | 224 => 347 | 267 => 348 | 266 => 334 | 314 => 363 | n => n, fun | 9 => 9 | 4 => 4 | 59 => 204 | 3 => 3 | 5 => 5 | 46 => 213 | 146 => 284 | 51 => 283 | n => n, fun | 1 => 0 | n => n⟩
def Tryz.laysM138_ren : Go.Shelf.Ren := ⟨fun | 138 => 304 | 195 => 344 | 218 => 345 | 143 => 255 | 219 => 305 | 217 => 279 | 225 => 346 | 224 => 347 | 267 => 348 | 266 => 334 | 314 => 363 | n => n, fun | 9 => 9 | 3 => 3 | 4 => 4 | 5 => 5 | 0 => 0 | 46 => 213 | 146 => 284 | 51 => 283 | n => n, fun | 1 => 0 | n => n⟩
def Tryz.lays206_ren : Go.Shelf.Ren := ⟨fun | 206 => 269 | n => n, fun | 9 => 9 | 4 => 4 | 3 => 3 | n => n, fun | n => n⟩
def Tryz.lays99_ren : Go.Shelf.Ren := ⟨fun | 99 => 199 | 206 => 269 | n => n, fun | 9 => 9 | 4 => 4 | 3 => 3 | n => n, fun | n => n⟩
theorem Tryz.lays99 : Go.Proofs.Lays.n99 Tryz.prog Tryz.lays99_ren := {
  mixed := by kernel_rfl
  f99 := Tryz.func199.trans (congrArg some (by kernel_rfl))
  f206 := Tryz.func269.trans (congrArg some (by kernel_rfl))
  t3 := Tryz.underlying3
  a3 := Tryz.isAgg3
  z3 := Tryz.sizeOf3
  v3 := Tryz.zeroValue3
  t4 := Tryz.underlying4
  a4 := Tryz.isAgg4
  z4 := Tryz.sizeOf4
  v4 := Tryz.zeroValue4
  t9 := Tryz.underlying9
  a9 := Tryz.isAgg9
  z9 := Tryz.sizeOf9
  v9 := Tryz.zeroValue9 }
open Go.RowKit Go.Lib in
/-- strings.HasPrefix: "HasPrefix reports whether the string s begins with prefix.": IT RETURNS 'Lib.hasPrefix s prefix'; the world is as it was. (LAID: no walk: one application.) -/
theorem Tryz.strings_HasPrefix (s p : ByteArray) (w : World) :
    Calls Tryz.prog 199 #[.string s, .string p] w fun e w' => e = .returned (.bool (Lib.hasPrefix s.data.toList p.data.toList)) ∧ w' = w := Any.strings_HasPrefix Tryz.lays99 s p w
def Tryz.lays207_ren : Go.Shelf.Ren := ⟨fun | 207 => 252 | n => n, fun | 9 => 9 | 4 => 4 | 3 => 3 | n => n, fun | n => n⟩
def Tryz.lays100_ren : Go.Shelf.Ren := ⟨fun | 100 => 181 | 207 => 252 | n => n, fun | 9 => 9 | 4 => 4 | 3 => 3 | n => n, fun | n => n⟩
theorem Tryz.lays100 : Go.Proofs.Lays.n100 Tryz.prog Tryz.lays100_ren := {
  mixed := by kernel_rfl
  f100 := Tryz.func181.trans (congrArg some (by kernel_rfl))
  f207 := Tryz.func252.trans (congrArg some (by kernel_rfl))
  t3 := Tryz.underlying3
  a3 := Tryz.isAgg3
  z3 := Tryz.sizeOf3
  v3 := Tryz.zeroValue3
  t4 := Tryz.underlying4
  a4 := Tryz.isAgg4
  z4 := Tryz.sizeOf4
  v4 := Tryz.zeroValue4
  t9 := Tryz.underlying9
  a9 := Tryz.isAgg9
  z9 := Tryz.sizeOf9
  v9 := Tryz.zeroValue9 }
open Go.RowKit Go.Lib in
/-- strings.HasSuffix: "HasSuffix reports whether the string s ends with suffix.": IT RETURNS 'Lib.hasSuffix s suffix'; the world is as it was. ('hs': no Go string is longer: a caller has it of every string that it was handed.) (LAID: no walk: one application.) -/
theorem Tryz.strings_HasSuffix (s p : ByteArray) (w : World) (hs : s.size ≤ 9223372036854775807) :
    Calls Tryz.prog 181 #[.string s, .string p] w fun e w' => e = .returned (.bool (Lib.hasSuffix s.data.toList p.data.toList)) ∧ w' = w := Any.strings_HasSuffix Tryz.lays100 s p w hs
def Tryz.lays208_ren : Go.Shelf.Ren := ⟨fun | 208 => 243 | 206 => 269 | n => n, fun | 9 => 9 | 4 => 4 | 3 => 3 | n => n, fun | n => n⟩
def Tryz.lays101_ren : Go.Shelf.Ren := ⟨fun | 101 => 169 | 208 => 243 | 206 => 269 | n => n, fun | 9 => 9 | 4 => 4 | 3 => 3 | n => n, fun | n => n⟩
theorem Tryz.lays101 : Go.Proofs.Lays.n101 Tryz.prog Tryz.lays101_ren := {
  mixed := by kernel_rfl
  f101 := Tryz.func169.trans (congrArg some (by kernel_rfl))
  f206 := Tryz.func269.trans (congrArg some (by kernel_rfl))
  f208 := Tryz.func243.trans (congrArg some (by kernel_rfl))
  t3 := Tryz.underlying3
  a3 := Tryz.isAgg3
  z3 := Tryz.sizeOf3
  v3 := Tryz.zeroValue3
  t4 := Tryz.underlying4
  a4 := Tryz.isAgg4
  z4 := Tryz.sizeOf4
  v4 := Tryz.zeroValue4
  t9 := Tryz.underlying9
  a9 := Tryz.isAgg9
  z9 := Tryz.sizeOf9
  v9 := Tryz.zeroValue9 }
open Go.RowKit Go.Lib in
/-- strings.TrimPrefix: "TrimPrefix returns s without the provided leading prefix string. If s doesn't start with prefix, s is returned unchanged.": IT RETURNS 'Lib.trimPrefix s prefix'; the world is as it was. (LAID: no walk: one application.) -/
theorem Tryz.strings_TrimPrefix (s p : ByteArray) (w : World) :
    Calls Tryz.prog 169 #[.string s, .string p] w fun e w' => e = .returned (.string ⟨(Lib.trimPrefix s.data.toList p.data.toList).toArray⟩) ∧ w' = w := Any.strings_TrimPrefix Tryz.lays101 s p w
def Tryz.lays221_ren : Go.Shelf.Ren := ⟨fun | 221 => 237 | 268 => 303 | 138 => 304 | 143 => 255 | 195 => 344 | 197 => 320 | 218 => 345 | 219 => 305 | 260 => 354 | 217 => 279 | 225 => 346 | 224 => 347 | 267 => 348 | 266 => 334 | 314 => 363 | n => n, fun | 9 => 9 | 3 => 3 | 31 => 85 | 4 => 4 | 0 => 0 | 105 => 330 | 21 => 21 | 5 => 5 | 46 => 213 | 119 => 326 | 139 => 329 | 138 => 328 | 146 => 284 | 51 => 283 | n => n, fun | 1 => 0 | 3 => 1 | 4 => 2 | n => n⟩
theorem Tryz.lays221 : Go.Proofs.Lays.n221 Tryz.prog Tryz.lays221_ren := {
  mixed := by kernel_rfl
  f138 := Tryz.func304.trans (congrArg some (by kernel_rfl))
  f143 := Tryz.func255.trans (congrArg some (by kernel_rfl))
  f195 := Tryz.func344.trans (congrArg some (by kernel_rfl))
  f197 := Tryz.func320.trans (congrArg some (by kernel_rfl))
  f217 := Tryz.func279.trans (congrArg some (by kernel_rfl))
  f218 := Tryz.func345.trans (congrArg some (by kernel_rfl))
  f219 := Tryz.func305.trans (congrArg some (by kernel_rfl))
  f221 := Tryz.func237.trans (congrArg some (by kernel_rfl))
  f224 := Tryz.func347.trans (congrArg some (by kernel_rfl))
  f225 := Tryz.func346.trans (congrArg some (by kernel_rfl))
  f260 := Tryz.func354.trans (congrArg some (by kernel_rfl))
  f266 := Tryz.func334.trans (congrArg some (by kernel_rfl))
  f267 := Tryz.func348.trans (congrArg some (by kernel_rfl))
  f268 := Tryz.func303.trans (congrArg some (by kernel_rfl))
  f314 := Tryz.func363.trans (congrArg some (by kernel_rfl))
  t0 := Tryz.underlying0
  a0 := Tryz.isAgg0
  z0 := Tryz.sizeOf0
  v0 := Tryz.zeroValue0
  t3 := Tryz.underlying3
  a3 := Tryz.isAgg3
  z3 := Tryz.sizeOf3
  v3 := Tryz.zeroValue3
  t4 := Tryz.underlying4
  a4 := Tryz.isAgg4
  z4 := Tryz.sizeOf4
  v4 := Tryz.zeroValue4
  t5 := Tryz.underlying5
  a5 := Tryz.isAgg5
  z5 := Tryz.sizeOf5
  v5 := Tryz.zeroValue5
  t9 := Tryz.underlying9
  a9 := Tryz.isAgg9
  z9 := Tryz.sizeOf9
  v9 := Tryz.zeroValue9
  t21 := Tryz.underlying21
  a21 := Tryz.isAgg21
  z21 := Tryz.sizeOf21
  v21 := Tryz.zeroValue21
  t31 := Tryz.underlying85
  a31 := Tryz.isAgg85
  z31 := Tryz.sizeOf85
  v31 := Tryz.zeroValue85
  t46 := Tryz.underlying213
  a46 := Tryz.isAgg213
  z46 := Tryz.sizeOf213
  v46 := Tryz.zeroValue213
  t51 := Tryz.underlying283
  a51 := Tryz.isAgg283
  z51 := Tryz.sizeOf283
  v51 := Tryz.zeroValue283
  t105 := Tryz.underlying330
  a105 := Tryz.isAgg330
  z105 := Tryz.sizeOf330
  v105 := Tryz.zeroValue330
  t119 := Tryz.underlying326
  a119 := Tryz.isAgg326
  z119 := Tryz.sizeOf326
  t138 := Tryz.underlying328
  a138 := Tryz.isAgg328
  z138 := Tryz.sizeOf328
  v138 := Tryz.zeroValue328
  t139 := Tryz.underlying329
  a139 := Tryz.isAgg329
  z139 := Tryz.sizeOf329
  v139 := Tryz.zeroValue329
  t146 := Tryz.underlying284
  a146 := Tryz.isAgg284
  z146 := Tryz.sizeOf284
  v146 := Tryz.zeroValue284
  g1 := by kernel_rfl
  g3 := by kernel_rfl
  g4 := by kernel_rfl }
def Tryz.lays146_ren : Go.Shelf.Ren := ⟨fun | 146 => 162 | 221 => 237 | 268 => 303 | 138 => 304 | 143 => 255 | 195 => 344 | 197 => 320 | 218 => 345 | 219 => 305 | 260 => 354 | 217 => 279 | 225 => 346 | 224 => 347 | 267 => 348 | 266 => 334 | 314 => 363 | n => n, fun | 9 => 9 | 31 => 85 | 3 => 3 | 4 => 4 | 0 => 0 | 105 => 330 | 21 => 21 | 5 => 5 | 46 => 213 | 119 => 326 | 139 => 329 | 138 => 328 | 146 => 284 | 51 => 283 | n => n, fun | 1 => 0 | 3 => 1 | 4 => 2 | n => n⟩
def Tryz.lays147_ren : Go.Shelf.Ren := ⟨fun | 147 => 187 | 221 => 237 | 268 => 303 | 138 => 304 | 143 => 255 | 195 => 344 | 197 => 320 | 218 => 345 | 219 => 305 | 260 => 354 | 217 => 279 | 225 => 346 | 224 => 347 | 267 => 348 | 266 => 334 | 314 => 363 | n => n, fun | 9 => 9 | 3 => 3 | 31 => 85 | 4 => 4 | 0 => 0 | 105 => 330 | 21 => 21 | 5 => 5 | 46 => 213 | 119 => 326 | 139 => 329 | 138 => 328 | 146 => 284 | 51 => 283 | n => n, fun | 1 => 0 | 3 => 1 | 4 => 2 | n => n⟩
def Tryz.lays204_ren : Go.Shelf.Ren := ⟨fun | 204 => 278 | 262 => 333 | 313 => 359 | 274 => 368 | 275 => 369 | n => n, fun | 21 => 21 | 4 => 4 | 3 => 3 | 162 => 357 | 203 => 355 | 160 => 366 | 46 => 213 | 0 => 0 | 208 => 374 | 51 => 283 | 206 => 372 | n => n, fun | 13 => 6 | n => n⟩
def Tryz.lays152_ren : Go.Shelf.Ren := ⟨fun | 152 => 355 | 137 => 210 | 119 => 366 | 224 => 347 | 225 => 346 | 217 => 279 | 266 => 334 | n => n, fun | 9 => 9 | 21 => 21 | 3 => 3 | 4 => 4 | 5 => 5 | 0 => 0 | 46 => 213 | n => n, fun | n => n⟩
def Tryz.lays151_ren : Go.Shelf.Ren := ⟨fun | 151 => 321 | 152 => 355 | 137 => 210 | 119 => 366 | 224 => 347 | 225 => 346 | 217 => 279 | 266 => 334 | n => n, fun | 9 => 9 | 21 => 21 | 4 => 4 | 3 => 3 | 5 => 5 | 0 => 0 | 46 => 213 | n => n, fun | n => n⟩
def Tryz.lays227_ren : Go.Shelf.Ren := ⟨fun | 227 => 259 | n => n, fun | 9 => 9 | 116 => 274 | 4 => 4 | 0 => 0 | 3 => 3 | 5 => 5 | n => n, fun | n => n⟩
def Tryz.lays228_ren : Go.Shelf.Ren := ⟨fun | 228 => 319 | n => n, fun | 124 => 278 | 5 => 5 | 4 => 4 | 0 => 0 | 116 => 274 | n => n, fun | n => n⟩
def Tryz.lays264_ren : Go.Shelf.Ren := ⟨fun | 264 => 268 | n => n, fun | 53 => 37 | 46 => 213 | n => n, fun | n => n⟩
def Tryz.lays212_ren : Go.Shelf.Ren := ⟨fun | 212 => 198 | 263 => 267 | 264 => 268 | n => n, fun | 46 => 213 | 51 => 283 | 146 => 284 | 53 => 37 | 148 => 286 | n => n, fun | n => n⟩
def Tryz.lays105_ren : Go.Shelf.Ren := ⟨fun | 105 => 106 | 212 => 198 | 99 => 199 | 165 => 200 | 166 => 55 | 170 => 57 | 169 => 58 | 263 => 267 | 264 => 268 | 206 => 269 | 240 => 152 | 241 => 270 | 276 => 233 | 277 => 325 | n => n, fun | 9 => 9 | 3 => 3 | 4 => 4 | 20 => 20 | 0 => 0 | 46 => 213 | 109 => 221 | 5 => 5 | 72 => 90 | 76 => 94 | 51 => 283 | 146 => 284 | 53 => 37 | 148 => 286 | 70 => 87 | 37 => 88 | 75 => 93 | 127 => 194 | 164 => 248 | 80 => 33 | n => n, fun | n => n⟩
def Tryz.lays260_ren : Go.Shelf.Ren := ⟨fun | 260 => 354 | n => n, fun | 9 => 9 | 21 => 21 | 3 => 3 | 4 => 4 | 5 => 5 | 119 => 326 | 0 => 0 | 46 => 213 | 139 => 329 | 138 => 328 | n => n, fun | 3 => 1 | 4 => 2 | n => n⟩
def Tryz.lays197_ren : Go.Shelf.Ren := ⟨fun | 197 => 320 | 260 => 354 | n => n, fun | 9 => 9 | 21 => 21 | 3 => 3 | 4 => 4 | 5 => 5 | 105 => 330 | 119 => 326 | 0 => 0 | 46 => 213 | 139 => 329 | 138 => 328 | n => n, fun | 3 => 1 | 4 => 2 | n => n⟩
def Tryz.lays274_ren : Go.Shelf.Ren := ⟨fun | 274 => 368 | n => n, fun | 21 => 21 | 162 => 357 | 160 => 366 | 3 => 3 | 4 => 4 | 46 => 213 | 0 => 0 | 208 => 374 | 51 => 283 | 206 => 372 | n => n, fun | n => n⟩
def Tryz.lays275_ren : Go.Shelf.Ren := ⟨fun | 275 => 369 | n => n, fun | 3 => 3 | 21 => 21 | 160 => 366 | 0 => 0 | 208 => 374 | 206 => 372 | 4 => 4 | 51 => 283 | n => n, fun | n => n⟩
def Tryz.lays313_ren : Go.Shelf.Ren := ⟨fun | 313 => 359 | 274 => 368 | 275 => 369 | n => n, fun | 3 => 3 | 21 => 21 | 162 => 357 | 4 => 4 | 160 => 366 | 46 => 213 | 0 => 0 | 208 => 374 | 51 => 283 | 206 => 372 | n => n, fun | n => n⟩
def Tryz.lays262_ren : Go.Shelf.Ren := ⟨fun | 262 => 333 | 313 => 359 | 274 => 368 | 275 => 369 | n => n, fun | 3 => 3 | 21 => 21 | 162 => 357 | 203 => 355 | 4 => 4 | 160 => 366 | 46 => 213 | 0 => 0 | 208 => 374 | 51 => 283 | 206 => 372 | n => n, fun | 13 => 6 | n => n⟩
end Go.Proofs
