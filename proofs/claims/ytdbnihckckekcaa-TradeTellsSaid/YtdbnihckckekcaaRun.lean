/- WHAT THE MODEL'S OPERATIONS DO, said once, over whatever program. -/
import Derived.Test.YtdbnihckckekcaaMem
set_option linter.unusedSimpArgs false
set_option linter.unusedVariables false
namespace Eng
open Go Go.RowKit

def szOf (P : Program) (t : TypeId) : Option Nat := match P.info? t with | some i => some i.size | none => none
def byOf (P : Program) (t : TypeId) : Option Nat := match P.info? t with | some i => some i.bytes | none => none
def isAggT (P : Program) (t : TypeId) : Option Bool := match P.underlying t with | some (.struct _) => some true | some (.array _ _) => some true | some _ => some false | none => none
def fieldO (P : Program) (t : TypeId) (i : Nat) : Option Nat :=
  match P.underlying t with
  | some (.struct fs) => match fs[i]? with
    | some f => match szOf P f.type with
      | some (_ + 1) => some f.offset
      | _ => none
    | none => none
  | _ => none

/-! Numbers written out. -/
def pickT : List Nat → Nat → Nat → (Nat → Prop) → Prop
  | [], _, v, K => K v
  | e :: _, 0, v, K => match Nat.beq e v with | true => K e | false => K v
  | _ :: r, n + 1, v, K => pickT r n v K
theorem pickT_eq (t : List Nat) : ∀ (d v : Nat) (K : Nat → Prop), pickT t d v K = K v := by
  induction t with
  | nil => intro d v K; rfl
  | cons e r ih =>
    intro d v K
    cases d with
    | zero =>
      simp only [pickT]
      cases h : Nat.beq e v with
      | true => rw [nbt.1 h]
      | false => rfl
    | succ d => exact ih d v K
def tabN : List Nat := [0, 1, 2, 3, 4, 5, 6, 7, 8, 9, 10, 11, 12, 13, 14, 15, 16, 17, 18, 19, 20, 21, 22, 23, 24, 25, 26, 27, 28, 29, 30, 31, 32, 33, 34, 35, 36, 37, 38, 39, 40, 41, 42, 43, 44, 45, 46, 47, 48, 49, 50, 51, 52, 53, 54, 55, 56, 57, 58, 59, 60, 61, 62, 63]
def tab0E : List Nat := [0, 2, 4, 6, 8, 10, 12, 14, 16, 18, 20, 22, 24, 26, 28, 30, 32, 34, 36, 38, 40, 42, 44, 46, 48, 50, 52, 54, 56, 58, 60, 62, 64, 66, 68, 70, 72, 74, 76, 78, 80, 82, 84, 86, 88, 90, 92, 94, 96, 98, 100, 102, 104, 106, 108, 110, 112, 114, 116, 118, 120, 122, 124, 126, 128, 130, 132, 134, 136, 138, 140, 142, 144, 146, 148, 150, 152, 154, 156, 158, 160, 162, 164, 166, 168, 170, 172, 174, 176, 178, 180, 182, 184, 186, 188, 190, 192, 194, 196, 198, 200, 202, 204, 206, 208, 210, 212, 214, 216, 218, 220, 222, 224, 226, 228, 230, 232, 234, 236, 238, 240, 242, 244, 246, 248, 250, 252, 254, 256, 258, 260, 262, 264, 266, 268, 270, 272, 274, 276, 278, 280, 282, 284, 286, 288, 290, 292, 294, 296, 298, 300, 302, 304, 306, 308, 310, 312, 314, 316, 318, 320, 322, 324, 326, 328, 330, 332, 334, 336, 338, 340, 342, 344, 346, 348, 350, 352, 354, 356, 358, 360, 362, 364, 366, 368, 370, 372, 374, 376, 378, 380, 382, 384, 386, 388, 390, 392, 394, 396, 398, 400, 402, 404, 406, 408, 410, 412, 414, 416, 418, 420, 422, 424, 426, 428, 430, 432, 434, 436, 438, 440, 442, 444, 446, 448, 450, 452, 454, 456, 458, 460, 462, 464, 466, 468, 470, 472, 474, 476, 478, 480, 482, 484, 486, 488, 490, 492, 494, 496, 498, 500, 502, 504, 506, 508, 510, 512, 514, 516, 518, 520, 522, 524, 526, 528, 530, 532, 534, 536, 538, 540, 542, 544, 546, 548, 550, 552, 554, 556, 558, 560, 562, 564, 566, 568, 570, 572, 574, 576, 578, 580, 582, 584, 586, 588, 590, 592, 594, 596, 598, 600, 602, 604, 606, 608, 610, 612, 614, 616, 618, 620, 622, 624, 626, 628, 630, 632, 634, 636, 638, 640, 642, 644, 646, 648, 650, 652, 654, 656, 658, 660, 662, 664, 666, 668, 670, 672, 674, 676, 678, 680, 682, 684, 686, 688, 690, 692, 694, 696, 698, 700, 702, 704, 706, 708, 710, 712, 714, 716, 718, 720, 722, 724, 726, 728, 730, 732, 734, 736, 738, 740, 742, 744, 746, 748, 750, 752, 754, 756, 758, 760, 762, 764, 766, 768, 770, 772, 774, 776, 778, 780, 782, 784, 786, 788, 790, 792, 794, 796, 798]
def tab0O : List Nat := [1, 3, 5, 7, 9, 11, 13, 15, 17, 19, 21, 23, 25, 27, 29, 31, 33, 35, 37, 39, 41, 43, 45, 47, 49, 51, 53, 55, 57, 59, 61, 63, 65, 67, 69, 71, 73, 75, 77, 79, 81, 83, 85, 87, 89, 91, 93, 95, 97, 99, 101, 103, 105, 107, 109, 111, 113, 115, 117, 119, 121, 123, 125, 127, 129, 131, 133, 135, 137, 139, 141, 143, 145, 147, 149, 151, 153, 155, 157, 159, 161, 163, 165, 167, 169, 171, 173, 175, 177, 179, 181, 183, 185, 187, 189, 191, 193, 195, 197, 199, 201, 203, 205, 207, 209, 211, 213, 215, 217, 219, 221, 223, 225, 227, 229, 231, 233, 235, 237, 239, 241, 243, 245, 247, 249, 251, 253, 255, 257, 259, 261, 263, 265, 267, 269, 271, 273, 275, 277, 279, 281, 283, 285, 287, 289, 291, 293, 295, 297, 299, 301, 303, 305, 307, 309, 311, 313, 315, 317, 319, 321, 323, 325, 327, 329, 331, 333, 335, 337, 339, 341, 343, 345, 347, 349, 351, 353, 355, 357, 359, 361, 363, 365, 367, 369, 371, 373, 375, 377, 379, 381, 383, 385, 387, 389, 391, 393, 395, 397, 399, 401, 403, 405, 407, 409, 411, 413, 415, 417, 419, 421, 423, 425, 427, 429, 431, 433, 435, 437, 439, 441, 443, 445, 447, 449, 451, 453, 455, 457, 459, 461, 463, 465, 467, 469, 471, 473, 475, 477, 479, 481, 483, 485, 487, 489, 491, 493, 495, 497, 499, 501, 503, 505, 507, 509, 511, 513, 515, 517, 519, 521, 523, 525, 527, 529, 531, 533, 535, 537, 539, 541, 543, 545, 547, 549, 551, 553, 555, 557, 559, 561, 563, 565, 567, 569, 571, 573, 575, 577, 579, 581, 583, 585, 587, 589, 591, 593, 595, 597, 599, 601, 603, 605, 607, 609, 611, 613, 615, 617, 619, 621, 623, 625, 627, 629, 631, 633, 635, 637, 639, 641, 643, 645, 647, 649, 651, 653, 655, 657, 659, 661, 663, 665, 667, 669, 671, 673, 675, 677, 679, 681, 683, 685, 687, 689, 691, 693, 695, 697, 699, 701, 703, 705, 707, 709, 711, 713, 715, 717, 719, 721, 723, 725, 727, 729, 731, 733, 735, 737, 739, 741, 743, 745, 747, 749, 751, 753, 755, 757, 759, 761, 763, 765, 767, 769, 771, 773, 775, 777, 779, 781, 783, 785, 787, 789, 791, 793, 795, 797, 799]
def tabLE : List Nat := [200000, 200002, 200004, 200006, 200008, 200010, 200012, 200014, 200016, 200018, 200020, 200022, 200024, 200026, 200028, 200030, 200032, 200034, 200036, 200038, 200040, 200042, 200044, 200046, 200048, 200050, 200052, 200054, 200056, 200058, 200060, 200062, 200064, 200066, 200068, 200070, 200072, 200074, 200076, 200078, 200080, 200082, 200084, 200086, 200088, 200090, 200092, 200094, 200096, 200098, 200100, 200102, 200104, 200106, 200108, 200110, 200112, 200114, 200116, 200118, 200120, 200122, 200124, 200126, 200128, 200130, 200132, 200134, 200136, 200138, 200140, 200142, 200144, 200146, 200148, 200150, 200152, 200154, 200156, 200158, 200160, 200162, 200164, 200166, 200168, 200170, 200172, 200174, 200176, 200178, 200180, 200182, 200184, 200186, 200188, 200190, 200192, 200194, 200196, 200198, 200200, 200202, 200204, 200206, 200208, 200210, 200212, 200214, 200216, 200218, 200220, 200222, 200224, 200226, 200228, 200230, 200232, 200234, 200236, 200238, 200240, 200242, 200244, 200246, 200248, 200250, 200252, 200254, 200256, 200258, 200260, 200262, 200264, 200266, 200268, 200270, 200272, 200274, 200276, 200278, 200280, 200282, 200284, 200286, 200288, 200290, 200292, 200294, 200296, 200298, 200300, 200302, 200304, 200306, 200308, 200310, 200312, 200314, 200316, 200318, 200320, 200322, 200324, 200326, 200328, 200330, 200332, 200334, 200336, 200338, 200340, 200342, 200344, 200346, 200348, 200350, 200352, 200354, 200356, 200358, 200360, 200362, 200364, 200366, 200368, 200370, 200372, 200374, 200376, 200378, 200380, 200382, 200384, 200386, 200388, 200390, 200392, 200394, 200396, 200398, 200400, 200402, 200404, 200406, 200408, 200410, 200412, 200414, 200416, 200418, 200420, 200422, 200424, 200426, 200428, 200430, 200432, 200434, 200436, 200438, 200440, 200442, 200444, 200446, 200448, 200450, 200452, 200454, 200456, 200458, 200460, 200462, 200464, 200466, 200468, 200470, 200472, 200474, 200476, 200478, 200480, 200482, 200484, 200486, 200488, 200490, 200492, 200494, 200496, 200498, 200500, 200502, 200504, 200506, 200508, 200510, 200512, 200514, 200516, 200518, 200520, 200522, 200524, 200526, 200528, 200530, 200532, 200534, 200536, 200538, 200540, 200542, 200544, 200546, 200548, 200550, 200552, 200554, 200556, 200558, 200560, 200562, 200564, 200566, 200568, 200570, 200572, 200574, 200576, 200578, 200580, 200582, 200584, 200586, 200588, 200590, 200592, 200594, 200596, 200598, 200600, 200602, 200604, 200606, 200608, 200610, 200612, 200614, 200616, 200618, 200620, 200622, 200624, 200626, 200628, 200630, 200632, 200634, 200636, 200638, 200640, 200642, 200644, 200646, 200648, 200650, 200652, 200654, 200656, 200658, 200660, 200662, 200664, 200666, 200668, 200670, 200672, 200674, 200676, 200678, 200680, 200682, 200684, 200686, 200688, 200690, 200692, 200694, 200696, 200698, 200700, 200702, 200704, 200706, 200708, 200710, 200712, 200714, 200716, 200718, 200720, 200722, 200724, 200726, 200728, 200730, 200732, 200734, 200736, 200738, 200740, 200742, 200744, 200746, 200748, 200750, 200752, 200754, 200756, 200758, 200760, 200762, 200764, 200766, 200768, 200770, 200772, 200774, 200776, 200778, 200780, 200782, 200784, 200786, 200788, 200790, 200792, 200794, 200796, 200798]
def tabLO : List Nat := [200001, 200003, 200005, 200007, 200009, 200011, 200013, 200015, 200017, 200019, 200021, 200023, 200025, 200027, 200029, 200031, 200033, 200035, 200037, 200039, 200041, 200043, 200045, 200047, 200049, 200051, 200053, 200055, 200057, 200059, 200061, 200063, 200065, 200067, 200069, 200071, 200073, 200075, 200077, 200079, 200081, 200083, 200085, 200087, 200089, 200091, 200093, 200095, 200097, 200099, 200101, 200103, 200105, 200107, 200109, 200111, 200113, 200115, 200117, 200119, 200121, 200123, 200125, 200127, 200129, 200131, 200133, 200135, 200137, 200139, 200141, 200143, 200145, 200147, 200149, 200151, 200153, 200155, 200157, 200159, 200161, 200163, 200165, 200167, 200169, 200171, 200173, 200175, 200177, 200179, 200181, 200183, 200185, 200187, 200189, 200191, 200193, 200195, 200197, 200199, 200201, 200203, 200205, 200207, 200209, 200211, 200213, 200215, 200217, 200219, 200221, 200223, 200225, 200227, 200229, 200231, 200233, 200235, 200237, 200239, 200241, 200243, 200245, 200247, 200249, 200251, 200253, 200255, 200257, 200259, 200261, 200263, 200265, 200267, 200269, 200271, 200273, 200275, 200277, 200279, 200281, 200283, 200285, 200287, 200289, 200291, 200293, 200295, 200297, 200299, 200301, 200303, 200305, 200307, 200309, 200311, 200313, 200315, 200317, 200319, 200321, 200323, 200325, 200327, 200329, 200331, 200333, 200335, 200337, 200339, 200341, 200343, 200345, 200347, 200349, 200351, 200353, 200355, 200357, 200359, 200361, 200363, 200365, 200367, 200369, 200371, 200373, 200375, 200377, 200379, 200381, 200383, 200385, 200387, 200389, 200391, 200393, 200395, 200397, 200399, 200401, 200403, 200405, 200407, 200409, 200411, 200413, 200415, 200417, 200419, 200421, 200423, 200425, 200427, 200429, 200431, 200433, 200435, 200437, 200439, 200441, 200443, 200445, 200447, 200449, 200451, 200453, 200455, 200457, 200459, 200461, 200463, 200465, 200467, 200469, 200471, 200473, 200475, 200477, 200479, 200481, 200483, 200485, 200487, 200489, 200491, 200493, 200495, 200497, 200499, 200501, 200503, 200505, 200507, 200509, 200511, 200513, 200515, 200517, 200519, 200521, 200523, 200525, 200527, 200529, 200531, 200533, 200535, 200537, 200539, 200541, 200543, 200545, 200547, 200549, 200551, 200553, 200555, 200557, 200559, 200561, 200563, 200565, 200567, 200569, 200571, 200573, 200575, 200577, 200579, 200581, 200583, 200585, 200587, 200589, 200591, 200593, 200595, 200597, 200599, 200601, 200603, 200605, 200607, 200609, 200611, 200613, 200615, 200617, 200619, 200621, 200623, 200625, 200627, 200629, 200631, 200633, 200635, 200637, 200639, 200641, 200643, 200645, 200647, 200649, 200651, 200653, 200655, 200657, 200659, 200661, 200663, 200665, 200667, 200669, 200671, 200673, 200675, 200677, 200679, 200681, 200683, 200685, 200687, 200689, 200691, 200693, 200695, 200697, 200699, 200701, 200703, 200705, 200707, 200709, 200711, 200713, 200715, 200717, 200719, 200721, 200723, 200725, 200727, 200729, 200731, 200733, 200735, 200737, 200739, 200741, 200743, 200745, 200747, 200749, 200751, 200753, 200755, 200757, 200759, 200761, 200763, 200765, 200767, 200769, 200771, 200773, 200775, 200777, 200779, 200781, 200783, 200785, 200787, 200789, 200791, 200793, 200795, 200797, 200799]
def frcK (n : Nat) (K : Nat → Prop) : Prop := pickT tabN n n K
theorem frcK_eq (n : Nat) (K : Nat → Prop) : frcK n K = K n := pickT_eq _ _ _ _
/-- The number of a variable, of a row. -/
def idK (base d : Nat) (K : Nat → Prop) : Prop := match Nat.beq base 0 with
  | true => pickT tab0E d (base + 2 * d) K
  | false => match Nat.beq base 200000 with
    | true => pickT tabLE d (base + 2 * d) K
    | false => K (base + 2 * d)
def odK (base d : Nat) (K : Nat → Prop) : Prop := match Nat.beq base 0 with
  | true => pickT tab0O d (base + (2 * d + 1)) K
  | false => match Nat.beq base 200000 with
    | true => pickT tabLO d (base + (2 * d + 1)) K
    | false => K (base + (2 * d + 1))
theorem idK_eq (base d : Nat) (K : Nat → Prop) : idK base d K = K (base + 2 * d) := by
  unfold idK; split
  · exact pickT_eq _ _ _ _
  · split
    · exact pickT_eq _ _ _ _
    · rfl
theorem odK_eq (base d : Nat) (K : Nat → Prop) : odK base d K = K (base + (2 * d + 1)) := by
  unfold odK; split
  · exact pickT_eq _ _ _ _
  · split
    · exact pickT_eq _ _ _ _
    · rfl

section
variable {P : Program} {w : World}

theorem run_underlying {t : TypeId} {d : TypeDesc} (h : P.underlying t = some d) : (underlying t).run P w = .ok d w := by
  simp [underlying, h]
theorem run_sizeOf {t : TypeId} {n : Nat} (h : szOf P t = some n) : (Go.sizeOf t).run P w = .ok n w := by
  unfold szOf at h
  cases hi : P.info? t with
  | none => simp [hi] at h
  | some i => simp [hi] at h; simp [Go.sizeOf, typeInfo, hi, h]
theorem run_typeInfo {t : TypeId} {i : TypeInfo} (h : P.info? t = some i) : (typeInfo t).run P w = .ok i w := by
  simp [typeInfo, h]
theorem run_isAgg {t : TypeId} {b : Bool} (h : isAggT P t = some b) : (isAgg t).run P w = .ok b w := by
  unfold isAggT at h
  cases hu : P.underlying t with
  | none => simp [hu] at h
  | some d => cases d <;> simp [hu] at h <;> subst h <;> simp [isAgg, underlying, hu]

theorem add_none (b o n : Nat) : (⟨b, o, none⟩ : Addr).add n = ⟨b, o + n, none⟩ := by
  unfold Addr.add; split
  · subst_vars; rfl
  · rfl

theorem run_fieldAt {t : TypeId} {i d : Nat} (h : fieldO P t i = some d) (b o : Nat) :
    (Instr.fieldAt t (.pointer (some ⟨b, o, none⟩)) i).run P w = .ok (.pointer (some ⟨b, o + d, none⟩)) w := by
  unfold fieldO at h
  cases hu : P.underlying t with
  | none => simp [hu] at h
  | some u =>
    cases u <;> simp [hu] at h
    rename_i fs
    cases hf : fs[i]? with
    | none => simp [hf] at h
    | some f =>
      simp [hf] at h
      cases hs : szOf P f.type with
      | none => simp [hs] at h
      | some n =>
        cases n with
        | zero => simp [hs] at h
        | succ n =>
          simp [hs] at h
          subst h
          simp [Instr.fieldAt, run_underlying hu, hf, Instr.sureAddr, fieldPlace, run_sizeOf hs, add_none]

/-- The cells of a block, from a place on, read. -/
theorem run_loadCellsFrom (b o : Nat) (xs : List Value) : ∀ (i : Nat) (acc : Array Value), (∀ j x, xs[j]? = some x → w.cell? ⟨b, o + (i + j), none⟩ = some x) →
    (loadCellsFrom ⟨b, o, none⟩ i xs.length acc).run P w = .ok (acc ++ xs.toArray) w := by
  induction xs with
  | nil => intro i acc _; simp [loadCellsFrom]
  | cons x xs ih =>
    intro i acc h
    have h0 : w.cell? ⟨b, o + i, none⟩ = some x := by have := h 0 x (by simp); simpa using this
    simp only [List.length_cons, loadCellsFrom, Sem.run_bind, run_load, add_none, h0, Result.andThen_ok]
    rw [ih (i + 1) (acc.push x) (fun j y hj => by have := h (j + 1) y (by simpa using hj); rw [show i + 1 + j = i + (j + 1) by omega]; exact this)]
    simp

theorem run_loadAgg {t : TypeId} (b o : Nat) (xs : List Value) (ha : isAggT P t = some true) (hs : szOf P t = some xs.length) (h : ∀ j x, xs[j]? = some x → w.cell? ⟨b, o + j, none⟩ = some x) :
    (Instr.loadAt t (.pointer (some ⟨b, o, none⟩))).run P w = .ok (.agg xs.toArray) w := by
  have := run_loadCellsFrom (P := P) (w := w) b o xs 0 #[] (by simpa using h)
  simp [Instr.loadAt, Instr.sureAddr, loadVar, run_isAgg ha, run_sizeOf hs, loadCells, this]

theorem run_loadOne {t : TypeId} (b o : Nat) (x : Value) (ha : isAggT P t = some false) (h : w.cell? ⟨b, o, none⟩ = some x) :
    (Instr.loadAt t (.pointer (some ⟨b, o, none⟩))).run P w = .ok x w := by
  simp [Instr.loadAt, Instr.sureAddr, loadVar, run_isAgg ha, h]

/-- Cells of a block written. -/
def setRange (c : Array Value) (o : Nat) : List Value → Array Value
  | [] => c
  | v :: r => setRange (c.setIfInBounds o v) (o + 1) r

theorem setRange_size (c : Array Value) (o : Nat) (vs : List Value) : (setRange c o vs).size = c.size := by
  induction vs generalizing c o with
  | nil => rfl
  | cons v r ih => simp [setRange, ih]

theorem setRange_get (c : Array Value) (o : Nat) (vs : List Value) (i : Nat) (h : o + vs.length ≤ c.size) :
    (setRange c o vs)[i]? = if o ≤ i ∧ i < o + vs.length then vs[i - o]? else c[i]? := by
  induction vs generalizing c o with
  | nil => simp [setRange]; intro _ h; omega
  | cons v r ih =>
    simp only [setRange]
    rw [ih _ _ (by simp at h ⊢; omega)]
    simp only [List.length_cons] at h ⊢
    by_cases h1 : o = i
    · subst h1
      rw [if_neg (by omega), if_pos (by omega)]
      simp [Array.getElem?_setIfInBounds]; omega
    · by_cases h2 : o + 1 ≤ i ∧ i < o + 1 + r.length
      · rw [if_pos h2, if_pos (by omega)]
        rw [show i - o = (i - (o + 1)) + 1 by omega]; simp
      · rw [if_neg h2, Array.getElem?_setIfInBounds_ne h1, if_neg (by omega)]

theorem run_storeCells (b o : Nat) (ty : TypeId) (vs : List Value) (h1 : ∀ v ∈ vs, v.oneCell' = true) : ∀ (i : Nat) (w : World) (c : Array Value), w.heap[b]? = some (.cells c ty (0, 0)) →
    o + i + vs.length ≤ c.size → ∃ w', (storeCells ⟨b, o, none⟩ vs i).run P w = .ok () w' ∧ w'.heap[b]? = some (.cells (setRange c (o + i) vs) ty (0, 0)) ∧
      (∀ k, k ≠ b → w'.heap[k]? = w.heap[k]?) ∧ w'.heap.size = w.heap.size ∧ w'.os = w.os ∧ w'.tape = w.tape ∧ w'.output = w.output := by
  induction vs with
  | nil => intro i w c hb _; exact ⟨w, by simp [storeCells], by simpa [setRange] using hb, fun _ _ => rfl, rfl, rfl, rfl, rfl⟩
  | cons v r ih =>
    intro i w c hb hl
    simp only [List.length_cons] at hl
    have hc : w.cell? ⟨b, o + i, none⟩ = some c[o + i] := by
      rw [cell_of_row w b (o + i) c ty (0, 0) hb, Array.getElem?_eq_getElem (by omega)]
    have hf : w.frozen? ⟨b, o + i, none⟩ = false := frozen_of_row w b (o + i) c ty hb
    have hb' : (w.setCell ⟨b, o + i, none⟩ v).heap[b]? = some (.cells (c.setIfInBounds (o + i) v) ty (0, 0)) := by
      have := heap_setCell_same w b (o + i) c ty v hb
      simpa using this
    obtain ⟨w', e1, e2, e3, e4, e5, e6, e7⟩ := ih (fun x hx => h1 x (by simp [hx])) (i + 1) (w.setCell ⟨b, o + i, none⟩ v) _ hb' (by simp; omega)
    refine ⟨w', ?_, ?_, fun k hk => ?_, ?_, ?_, ?_, ?_⟩
    · simp only [storeCells, Sem.run_bind, add_none]
      rw [run_store P w _ v .plain (h1 v (by simp))]
      simp only [hc, hf, Bool.false_eq_true, if_false, Result.andThen_ok]
      exact e1
    · rw [e2]; simp [setRange, Nat.add_assoc]
    · rw [e3 k hk, heap_setCell_other _ _ _ _ (by simpa using hk)]
    · rw [e4]; simp [World.setCell]
    · rw [e5]; rfl
    · rw [e6]; rfl
    · rw [e7]; rfl

theorem run_storeAt {t : TypeId} (b o : Nat) (ty : TypeId) (c : Array Value) (x : Value) (hs : szOf P t = some x.cells.size) (h1 : ∀ v ∈ x.cells.toList, v.oneCell' = true)
    (hb : w.heap[b]? = some (.cells c ty (0, 0))) (hl : o + x.cells.size ≤ c.size) :
    ∃ w', (Instr.storeAt t (.pointer (some ⟨b, o, none⟩)) x).run P w = .ok () w' ∧ w'.heap[b]? = some (.cells (setRange c o x.cells.toList) ty (0, 0)) ∧
      (∀ k, k ≠ b → w'.heap[k]? = w.heap[k]?) ∧ w'.heap.size = w.heap.size ∧ w'.os = w.os ∧ w'.tape = w.tape ∧ w'.output = w.output := by
  obtain ⟨w', e1, e2⟩ := run_storeCells (P := P) b o ty x.cells.toList h1 0 w c hb (by simpa using hl)
  refine ⟨w', ?_, by simpa using e2⟩
  simp [Instr.storeAt, Instr.sureAddr, storeVar, run_sizeOf hs, e1]

theorem run_newVar (t : TypeId) (x : Value) : (newVar t x).run P w = .ok ⟨w.heap.size, 0, none⟩ (w.alloc (.cells x.cells t)) := by
  simp [newVar, newRow]

end
end Eng
