/- The program's roots of the first primes: a reckoning, one by one. (Printed by mkrootp.py.) -/
import Derived.Test.YtojmbbapcnfibaaPa
import Derived.Test.YtojmbbapcnfibaaD
namespace Go.Proofs.Ytojmbbapcnfibaa

set_option maxHeartbeats 4000000 in
theorem rp0 : rootV 2 = 4794697086780616226 := by decide +kernel
set_option maxHeartbeats 4000000 in
theorem rp1 : rootV 3 = 8158064640168781261 := by decide +kernel
set_option maxHeartbeats 4000000 in
theorem rp2 : rootV 5 = 13096744586834688815 := by decide +kernel
set_option maxHeartbeats 4000000 in
theorem rp3 : rootV 7 = 16840607885511220156 := by decide +kernel
set_option maxHeartbeats 4000000 in
theorem rp4 : rootV 11 = 4131703408338449720 := by decide +kernel
set_option maxHeartbeats 4000000 in
theorem rp5 : rootV 13 = 6480981068601479193 := by decide +kernel
set_option maxHeartbeats 4000000 in
theorem rp6 : rootV 17 = 10538285296894168987 := by decide +kernel
set_option maxHeartbeats 4000000 in
theorem rp7 : rootV 19 = 12329834152419229976 := by decide +kernel
set_option maxHeartbeats 4000000 in
theorem rp8 : rootV 23 = 15566598209576043074 := by decide +kernel
set_option maxHeartbeats 4000000 in
theorem rp9 : rootV 29 = 1334009975649890238 := by decide +kernel
set_option maxHeartbeats 4000000 in
theorem rp10 : rootV 31 = 2608012711638119052 := by decide +kernel
set_option maxHeartbeats 4000000 in
theorem rp11 : rootV 37 = 6128411473006802146 := by decide +kernel
set_option maxHeartbeats 4000000 in
theorem rp12 : rootV 41 = 8268148722764581231 := by decide +kernel
set_option maxHeartbeats 4000000 in
theorem rp13 : rootV 43 = 9286055187155687089 := by decide +kernel
set_option maxHeartbeats 4000000 in
theorem rp14 : rootV 47 = 11230858885718282805 := by decide +kernel
set_option maxHeartbeats 4000000 in
theorem rp15 : rootV 53 = 13951009754708518548 := by decide +kernel
set_option maxHeartbeats 4000000 in
theorem rp16 : rootV 59 = 16472876342353939154 := by decide +kernel
set_option maxHeartbeats 4000000 in
theorem rp17 : rootV 61 = 17275323862435702243 := by decide +kernel
set_option maxHeartbeats 4000000 in
theorem rp18 : rootV 67 = 1135362057144423861 := by decide +kernel
set_option maxHeartbeats 4000000 in
theorem rp19 : rootV 71 = 2597628984639134821 := by decide +kernel
set_option maxHeartbeats 4000000 in
theorem rp20 : rootV 73 = 3308224258029322869 := by decide +kernel
set_option maxHeartbeats 4000000 in
theorem rp21 : rootV 79 = 5365058923640841347 := by decide +kernel
set_option maxHeartbeats 4000000 in
theorem rp22 : rootV 83 = 6679025012923562964 := by decide +kernel
set_option maxHeartbeats 4000000 in
theorem rp23 : rootV 89 = 8573033837759648693 := by decide +kernel
set_option maxHeartbeats 4000000 in
theorem rp24 : rootV 97 = 10970295158949994411 := by decide +kernel
set_option maxHeartbeats 4000000 in
theorem rp25 : rootV 101 = 12119686244451234320 := by decide +kernel
set_option maxHeartbeats 4000000 in
theorem rp26 : rootV 103 = 12683024718118986047 := by decide +kernel
set_option maxHeartbeats 4000000 in
theorem rp27 : rootV 107 = 13788192230050041572 := by decide +kernel
set_option maxHeartbeats 4000000 in
theorem rp28 : rootV 109 = 14330467153632333762 := by decide +kernel
set_option maxHeartbeats 4000000 in
theorem rp29 : rootV 113 = 15395433587784984357 := by decide +kernel
set_option maxHeartbeats 4000000 in
theorem rp30 : rootV 127 = 489312712824947311 := by decide +kernel
set_option maxHeartbeats 4000000 in
theorem rp31 : rootV 131 = 1452737877330783856 := by decide +kernel
set_option maxHeartbeats 4000000 in
theorem rp32 : rootV 137 = 2861767655752347644 := by decide +kernel
set_option maxHeartbeats 4000000 in
theorem rp33 : rootV 139 = 3322285676063803686 := by decide +kernel
set_option maxHeartbeats 4000000 in
theorem rp34 : rootV 149 = 5560940570517711597 := by decide +kernel
set_option maxHeartbeats 4000000 in
theorem rp35 : rootV 151 = 5996557281743188959 := by decide +kernel
set_option maxHeartbeats 4000000 in
theorem rp36 : rootV 157 = 7280758554555802590 := by decide +kernel
set_option maxHeartbeats 4000000 in
theorem rp37 : rootV 163 = 8532644243296465576 := by decide +kernel
set_option maxHeartbeats 4000000 in
theorem rp38 : rootV 167 = 9350256976987008742 := by decide +kernel
set_option maxHeartbeats 4000000 in
theorem rp39 : rootV 173 = 10552545826968843579 := by decide +kernel
set_option maxHeartbeats 4000000 in
theorem rp40 : rootV 179 = 11727347734174303076 := by decide +kernel
set_option maxHeartbeats 4000000 in
theorem rp41 : rootV 181 = 12113106623233404929 := by decide +kernel
set_option maxHeartbeats 4000000 in
theorem rp42 : rootV 191 = 14000437183269869457 := by decide +kernel
set_option maxHeartbeats 4000000 in
theorem rp43 : rootV 193 = 14369950271660146224 := by decide +kernel
set_option maxHeartbeats 4000000 in
theorem rp44 : rootV 197 = 15101387698204529176 := by decide +kernel
set_option maxHeartbeats 4000000 in
theorem rp45 : rootV 199 = 15463397548674623760 := by decide +kernel
set_option maxHeartbeats 4000000 in
theorem rp46 : rootV 211 = 17586052441742319658 := by decide +kernel
set_option maxHeartbeats 4000000 in
theorem rp47 : rootV 223 = 1182934255886127544 := by decide +kernel
set_option maxHeartbeats 4000000 in
theorem rp48 : rootV 227 = 1847814050463011016 := by decide +kernel
set_option maxHeartbeats 4000000 in
theorem rp49 : rootV 229 = 2177327727835720531 := by decide +kernel
set_option maxHeartbeats 4000000 in
theorem rp50 : rootV 233 = 2830643537854262169 := by decide +kernel
set_option maxHeartbeats 4000000 in
theorem rp51 : rootV 239 = 3796741975233480872 := by decide +kernel
set_option maxHeartbeats 4000000 in
theorem rp52 : rootV 241 = 4115178125766777443 := by decide +kernel
set_option maxHeartbeats 4000000 in
theorem rp53 : rootV 251 = 5681478168544905931 := by decide +kernel
set_option maxHeartbeats 4000000 in
theorem rp54 : rootV 257 = 6601373596472566643 := by decide +kernel
set_option maxHeartbeats 4000000 in
theorem rp55 : rootV 263 = 7507060721942968483 := by decide +kernel
set_option maxHeartbeats 4000000 in
theorem rp56 : rootV 269 = 8399075790359081724 := by decide +kernel
set_option maxHeartbeats 4000000 in
theorem rp57 : rootV 271 = 8693463985226723168 := by decide +kernel
set_option maxHeartbeats 4000000 in
theorem rp58 : rootV 277 = 9568029438360202098 := by decide +kernel
set_option maxHeartbeats 4000000 in
theorem rp59 : rootV 281 = 10144078919501101548 := by decide +kernel
set_option maxHeartbeats 4000000 in
theorem rp60 : rootV 283 = 10430055236837252648 := by decide +kernel
set_option maxHeartbeats 4000000 in
theorem rp61 : rootV 293 = 11840083180663258601 := by decide +kernel
set_option maxHeartbeats 4000000 in
theorem rp62 : rootV 307 = 13761210420658862357 := by decide +kernel
set_option maxHeartbeats 4000000 in
theorem rp63 : rootV 311 = 14299343276471374635 := by decide +kernel
set_option maxHeartbeats 4000000 in
theorem rp64 : rootV 313 = 14566680578165727644 := by decide +kernel
set_option maxHeartbeats 4000000 in
theorem rp65 : rootV 317 = 15097957966210449927 := by decide +kernel
set_option maxHeartbeats 4000000 in
theorem rp66 : rootV 331 = 16922976911328602910 := by decide +kernel
set_option maxHeartbeats 4000000 in
theorem rp67 : rootV 337 = 17689382322260857208 := by decide +kernel
set_option maxHeartbeats 4000000 in
theorem rp68 : rootV 347 = 500013540394364858 := by decide +kernel
set_option maxHeartbeats 4000000 in
theorem rp69 : rootV 349 = 748580250866718886 := by decide +kernel
set_option maxHeartbeats 4000000 in
theorem rp70 : rootV 353 = 1242879168328830382 := by decide +kernel
set_option maxHeartbeats 4000000 in
theorem rp71 : rootV 359 = 1977374033974150939 := by decide +kernel
set_option maxHeartbeats 4000000 in
theorem rp72 : rootV 367 = 2944078676154940804 := by decide +kernel
set_option maxHeartbeats 4000000 in
theorem rp73 : rootV 373 = 3659926193048069267 := by decide +kernel
set_option maxHeartbeats 4000000 in
theorem rp74 : rootV 379 = 4368137639120453308 := by decide +kernel
set_option maxHeartbeats 4000000 in
theorem rp75 : rootV 383 = 4836135668995329356 := by decide +kernel
set_option maxHeartbeats 4000000 in
theorem rp76 : rootV 389 = 5532061633213252278 := by decide +kernel
set_option maxHeartbeats 4000000 in
theorem rp77 : rootV 397 = 6448918945643986474 := by decide +kernel
set_option maxHeartbeats 4000000 in
theorem rp78 : rootV 401 = 6902733635092675308 := by decide +kernel
set_option maxHeartbeats 4000000 in
theorem rp79 : rootV 409 = 7801388544844847127 := by decide +kernel
theorem prL_litp : prL 408 = [2, 3, 5, 7, 11, 13, 17, 19, 23, 29, 31, 37, 41, 43, 47, 53, 59, 61, 67, 71, 73, 79, 83, 89, 97, 101, 103, 107, 109, 113, 127, 131, 137, 139, 149, 151, 157, 163, 167, 173, 179, 181, 191, 193, 197, 199, 211, 223, 227, 229, 233, 239, 241, 251, 257, 263, 269, 271, 277, 281, 283, 293, 307, 311, 313, 317, 331, 337, 347, 349, 353, 359, 367, 373, 379, 383, 389, 397, 401, 409] := by decide +kernel
theorem roots_prog : ∀ i, i < 80 → rootV ((prL 408).getD i 0) = constsL.getD i 0 := by
  intro i hi
  rw [prL_litp]
  match i, hi with
  | 0, _ => exact rp0
  | 1, _ => exact rp1
  | 2, _ => exact rp2
  | 3, _ => exact rp3
  | 4, _ => exact rp4
  | 5, _ => exact rp5
  | 6, _ => exact rp6
  | 7, _ => exact rp7
  | 8, _ => exact rp8
  | 9, _ => exact rp9
  | 10, _ => exact rp10
  | 11, _ => exact rp11
  | 12, _ => exact rp12
  | 13, _ => exact rp13
  | 14, _ => exact rp14
  | 15, _ => exact rp15
  | 16, _ => exact rp16
  | 17, _ => exact rp17
  | 18, _ => exact rp18
  | 19, _ => exact rp19
  | 20, _ => exact rp20
  | 21, _ => exact rp21
  | 22, _ => exact rp22
  | 23, _ => exact rp23
  | 24, _ => exact rp24
  | 25, _ => exact rp25
  | 26, _ => exact rp26
  | 27, _ => exact rp27
  | 28, _ => exact rp28
  | 29, _ => exact rp29
  | 30, _ => exact rp30
  | 31, _ => exact rp31
  | 32, _ => exact rp32
  | 33, _ => exact rp33
  | 34, _ => exact rp34
  | 35, _ => exact rp35
  | 36, _ => exact rp36
  | 37, _ => exact rp37
  | 38, _ => exact rp38
  | 39, _ => exact rp39
  | 40, _ => exact rp40
  | 41, _ => exact rp41
  | 42, _ => exact rp42
  | 43, _ => exact rp43
  | 44, _ => exact rp44
  | 45, _ => exact rp45
  | 46, _ => exact rp46
  | 47, _ => exact rp47
  | 48, _ => exact rp48
  | 49, _ => exact rp49
  | 50, _ => exact rp50
  | 51, _ => exact rp51
  | 52, _ => exact rp52
  | 53, _ => exact rp53
  | 54, _ => exact rp54
  | 55, _ => exact rp55
  | 56, _ => exact rp56
  | 57, _ => exact rp57
  | 58, _ => exact rp58
  | 59, _ => exact rp59
  | 60, _ => exact rp60
  | 61, _ => exact rp61
  | 62, _ => exact rp62
  | 63, _ => exact rp63
  | 64, _ => exact rp64
  | 65, _ => exact rp65
  | 66, _ => exact rp66
  | 67, _ => exact rp67
  | 68, _ => exact rp68
  | 69, _ => exact rp69
  | 70, _ => exact rp70
  | 71, _ => exact rp71
  | 72, _ => exact rp72
  | 73, _ => exact rp73
  | 74, _ => exact rp74
  | 75, _ => exact rp75
  | 76, _ => exact rp76
  | 77, _ => exact rp77
  | 78, _ => exact rp78
  | 79, _ => exact rp79
  | k + 80, h => exact absurd h (by omega)

end Go.Proofs.Ytojmbbapcnfibaa
