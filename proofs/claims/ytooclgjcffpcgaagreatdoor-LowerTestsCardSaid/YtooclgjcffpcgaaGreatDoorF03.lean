/- The closure of the law's function, what it names; no function starts a goroutine. Part of the proof that LowerTests returns true for every input that reads as data, its listed variables laid as the text lays them. -/
import Derived.Test.YtooclgjcffpcgaaGreatDoorF02
import Derived.Test.YtooclgjcffpcgaaGreatDoorF01
/- The closure of a function, what it names. Printed by a program. -/
namespace Go.Proofs.LowF
open Go Go.Tab
set_option maxRecDepth 100000
theorem hT : FL.map (·.map (info Tryz.prog)) = T := by
  simp only [FL, T, List.map_cons, List.map_nil, row0, row1, row2, row3, row4, row5, row6, row7, row8, row9, row10, row11, row12, row13, row14, row15, row16, row17, row18, row19, row20, row21, row22, row23, row24, row25, row26, row27]
noncomputable def L : List Nat := [3, 4, 8, 13, 21, 41, 27, 46, 47, 90, 139, 140, 141, 202, 39, 58, 95, 148, 206, 149, 150, 151, 207, 48, 91, 142, 103, 143, 203, 270, 144, 204, 271, 205, 145, 92, 146, 49, 50, 93, 147, 51, 94, 59, 60, 18, 38, 61, 62, 97, 153, 208, 272, 353, 354, 285, 469, 470, 355, 356, 471, 472, 553, 554, 96, 152, 98, 99, 101, 155, 209, 100, 154, 42, 63, 102, 64, 104, 156, 210, 211, 65, 105, 66, 106, 67, 24, 44, 84, 136, 26, 199, 262, 347, 183, 241, 300, 301, 302, 377, 299, 303, 378, 362, 304, 305, 379, 489, 380, 306, 307, 381, 382, 290, 364, 474, 555, 475, 476, 365, 477, 366, 478, 556, 367, 479, 162, 219, 284, 218, 275, 281, 276, 357, 277, 358, 359, 278, 360, 361, 473, 279, 280, 282, 283, 368, 200, 87, 263, 348, 465, 466, 551, 605, 264, 265, 267, 268, 266, 247, 315, 32, 316, 317, 438, 536, 537, 318, 440, 441, 538, 439, 293, 319, 320, 443, 444, 540, 34, 541, 251, 324, 442, 539, 321, 215, 273, 349, 269, 351, 468, 350, 467, 552, 352, 201, 137, 138, 45, 85, 86, 88, 89, 43, 68, 22, 69, 23, 70, 107, 157, 212, 213, 226, 235, 71, 108, 158, 214, 159, 72, 73, 74, 109, 160, 216, 110, 161, 217, 274, 111, 133, 112, 118, 177, 121, 75, 76, 113, 114, 163, 220, 286, 221, 164, 222, 165, 223, 170, 171, 176, 224, 287, 288, 363, 289, 173, 230, 291, 369, 480, 172, 225, 166, 115, 167, 227, 228, 229, 116, 168, 169, 117, 174, 175, 231, 119, 178, 124, 77, 120, 122, 78, 123, 179, 232, 292, 370, 481, 371, 243, 234, 233, 79, 125, 180, 237, 236, 294, 181, 239, 238, 295, 296, 297, 372, 482, 373, 374, 483, 557, 425, 80, 126, 128, 127, 182, 240, 298, 376, 485, 558, 486, 487, 559, 606, 607, 375, 484, 488, 454, 560, 81, 129, 184, 242, 185, 244, 186, 245, 308, 383, 490, 421, 491, 561, 384, 385, 492, 386, 493, 494, 387, 495, 496, 562, 563, 564, 608, 645, 680, 565, 609, 566, 388, 497, 567, 568, 509, 389, 390, 498, 569, 610, 646, 522, 588, 622, 499, 570, 571, 611, 523, 647, 681, 701, 697, 706, 712, 713, 579, 618, 659, 707, 648, 391, 392, 393, 500, 572, 612, 649, 650, 682, 683, 687, 684, 702, 688, 689, 685, 686, 703, 694, 705, 711, 718, 722, 719, 720, 721, 575, 615, 656, 651, 573, 613, 614, 652, 653, 690, 691, 655, 654, 692, 693, 704, 594, 33, 679, 252, 325, 326, 450, 700, 709, 710, 717, 511, 574, 394, 432, 532, 395, 433, 396, 501, 397, 502, 503, 576, 616, 398, 399, 434, 533, 400, 401, 504, 577, 402, 505, 578, 617, 657, 658, 695, 403, 506, 404, 507, 508, 405, 510, 406, 513, 580, 582, 581, 619, 512, 407, 514, 515, 583, 620, 660, 621, 408, 516, 409, 517, 410, 519, 584, 585, 518, 411, 520, 586, 412, 413, 414, 415, 521, 587, 524, 589, 623, 590, 591, 624, 661, 662, 663, 664, 665, 696, 666, 678, 667, 625, 668, 626, 546, 603, 644, 602, 601, 669, 192, 250, 322, 445, 542, 599, 600, 323, 446, 447, 448, 543, 449, 670, 698, 627, 671, 699, 708, 714, 715, 716, 628, 672, 629, 673, 630, 631, 632, 633, 634, 525, 416, 526, 417, 418, 527, 592, 635, 636, 593, 637, 674, 638, 675, 641, 676, 677, 419, 528, 595, 639, 640, 420, 529, 596, 642, 643, 597, 422, 309, 246, 310, 423, 429, 427, 458, 459, 457, 336, 530, 531, 313, 424, 426, 428, 342, 311, 430, 431, 343, 346, 312, 314, 435, 436, 534, 598, 535, 437, 130, 187, 188, 189, 248, 190, 191, 249, 82, 131, 14, 28, 29, 30, 52, 55, 54, 53, 132, 134, 193, 194, 195, 196, 253, 327, 328, 451, 544, 254, 329, 330, 452, 545, 197, 135, 198, 255, 331, 338, 332, 453, 333, 334, 335, 256, 257, 337, 455, 456, 339, 258, 340, 341, 259, 344, 260, 345, 460, 461, 547, 548, 462, 549, 463, 464, 550, 604, 261, 83, 25, 15, 31, 10, 19, 40, 17, 35, 37, 56, 57, 36, 9, 16, 5, 6, 7, 11, 20, 12]
theorem hN : 1 + (T.flatten.map fun x => x.leads.length + 1).sum = 2902 := by kernel_rfl
theorem hV : visit (fun f => (nth2 28 dflt T f).leads) 2902 [3] 0 [] = L := by kernel_rfl
theorem closure : Tryz.prog.closure 3 = L := closure_table (by decide) hF hT hr hN hV
theorem inPlace : Tryz.prog.inPlace 3 = ["internal/bytealg.IndexByteString", "internal/bytealg.IndexString", "internal/bytealg.abigen_runtime_cmpstring", "internal/abi.NoEscape", "internal/bytealg.MakeNoZero", "slices.overlaps[string]", "slices.overlaps[hallmark/api.Value]", "internal/bytealg.CountString", "slices.overlaps[hallmark/api.Type]", "slices.overlaps[bool]"] := inPlace_table (by decide) hF hT hr closure (by kernel_rfl)
theorem hG : (L.flatMap fun g => (nth2 28 dflt T g).globs).eraseDups = [0, 1, 2, 3, 7, 8, 4, 5, 6] := by kernel_rfl
theorem hS : (L.filterMap fun g => (nth2 28 dflt T g).reads) = ["internal/bytealg.MaxLen"] := by kernel_rfl
theorem varsNamed : Tryz.prog.varsNamed 3 = ["internal/bytealg.MaxLen", "unicode/utf8.first", "unicode/utf8.acceptRanges", "internal/strconv.uint64pow10", "math/bits.deBruijn32tab", "math/bits.deBruijn64tab", "hallmark/narrow.facing", "strconv.ErrSyntax", "strconv.ErrRange"] := named_table (by decide) hF hT hr closure hG hS (by kernel_rfl)
theorem mem140 : 140 ∈ L := by decide +kernel
noncomputable def body140 : Code := match Tryz.f140.body with | some x => x | none => .ret
theorem unfollowed : Tryz.prog.unfollowed 3 = true := unfollowed_at closure mem140 Tryz.func140 (b := body140) (by kernel_rfl) (by kernel_rfl)
theorem recurses : Tryz.prog.recurses 3 = true := recurses_of unfollowed
noncomputable def look323 : Code := match Tryz.f323.body with | some x => x | none => .ret
theorem looks : Tryz.prog.looks [] = true := looks_of Tryz.func323 (b := look323) (by kernel_rfl) (by kernel_rfl)
end Go.Proofs.LowF
/- No function starts a goroutine. Printed by a program. -/
namespace Go.Proofs.LowF
open Go Go.Tab
set_option maxRecDepth 100000
theorem go0 : fl0.any Func.goes = false := by kernel_rfl
theorem go1 : fl1.any Func.goes = false := by kernel_rfl
theorem go2 : fl2.any Func.goes = false := by kernel_rfl
theorem go3 : fl3.any Func.goes = false := by kernel_rfl
theorem go4 : fl4.any Func.goes = false := by kernel_rfl
theorem go5 : fl5.any Func.goes = false := by kernel_rfl
theorem go6 : fl6.any Func.goes = false := by kernel_rfl
theorem go7 : fl7.any Func.goes = false := by kernel_rfl
theorem go8 : fl8.any Func.goes = false := by kernel_rfl
theorem go9 : fl9.any Func.goes = false := by kernel_rfl
theorem go10 : fl10.any Func.goes = false := by kernel_rfl
theorem go11 : fl11.any Func.goes = false := by kernel_rfl
theorem go12 : fl12.any Func.goes = false := by kernel_rfl
theorem go13 : fl13.any Func.goes = false := by kernel_rfl
theorem go14 : fl14.any Func.goes = false := by kernel_rfl
theorem go15 : fl15.any Func.goes = false := by kernel_rfl
theorem go16 : fl16.any Func.goes = false := by kernel_rfl
theorem go17 : fl17.any Func.goes = false := by kernel_rfl
theorem go18 : fl18.any Func.goes = false := by kernel_rfl
theorem go19 : fl19.any Func.goes = false := by kernel_rfl
theorem go20 : fl20.any Func.goes = false := by kernel_rfl
theorem go21 : fl21.any Func.goes = false := by kernel_rfl
theorem go22 : fl22.any Func.goes = false := by kernel_rfl
theorem go23 : fl23.any Func.goes = false := by kernel_rfl
theorem go24 : fl24.any Func.goes = false := by kernel_rfl
theorem go25 : fl25.any Func.goes = false := by kernel_rfl
theorem go26 : fl26.any Func.goes = false := by kernel_rfl
theorem go27 : fl27.any Func.goes = false := by kernel_rfl
theorem noGo : Tryz.prog.funcs.any Func.goes = false := by
  rw [← Array.any_toList, hF]
  simp only [FL, List.flatten_cons, List.flatten_nil, List.any_append, List.any_nil, Bool.or_false, go0, go1, go2, go3, go4, go5, go6, go7, go8, go9, go10, go11, go12, go13, go14, go15, go16, go17, go18, go19, go20, go21, go22, go23, go24, go25, go26, go27]
end Go.Proofs.LowF
