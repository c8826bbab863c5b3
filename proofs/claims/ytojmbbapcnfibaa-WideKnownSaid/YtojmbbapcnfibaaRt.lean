/- The roots of the first primes: a reckoning, one by one. (Printed by mkroots.py.) -/
import Derived.Test.YtojmbbapcnfibaaR
import Derived.Test.YtojmbbapcnfibaaU
namespace Go.Proofs.Ytojmbbapcnfibaa

set_option maxHeartbeats 4000000 in
theorem rw0 : ((rootP [0, 0, 0, 2] true 70).x).getD 0 0 = 4794697086780616226 := by decide +kernel
set_option maxHeartbeats 4000000 in
theorem rw1 : ((rootP [0, 0, 0, 3] true 70).x).getD 0 0 = 8158064640168781261 := by decide +kernel
set_option maxHeartbeats 4000000 in
theorem rw2 : ((rootP [0, 0, 0, 5] true 70).x).getD 0 0 = 13096744586834688815 := by decide +kernel
set_option maxHeartbeats 4000000 in
theorem rw3 : ((rootP [0, 0, 0, 7] true 70).x).getD 0 0 = 16840607885511220156 := by decide +kernel
set_option maxHeartbeats 4000000 in
theorem rw4 : ((rootP [0, 0, 0, 11] true 70).x).getD 0 0 = 4131703408338449720 := by decide +kernel
set_option maxHeartbeats 4000000 in
theorem rw5 : ((rootP [0, 0, 0, 13] true 70).x).getD 0 0 = 6480981068601479193 := by decide +kernel
set_option maxHeartbeats 4000000 in
theorem rw6 : ((rootP [0, 0, 0, 17] true 70).x).getD 0 0 = 10538285296894168987 := by decide +kernel
set_option maxHeartbeats 4000000 in
theorem rw7 : ((rootP [0, 0, 0, 19] true 70).x).getD 0 0 = 12329834152419229976 := by decide +kernel
set_option maxHeartbeats 4000000 in
theorem rw8 : ((rootP [0, 0, 0, 23] true 70).x).getD 0 0 = 15566598209576043074 := by decide +kernel
set_option maxHeartbeats 4000000 in
theorem rw9 : ((rootP [0, 0, 0, 29] true 70).x).getD 0 0 = 1334009975649890238 := by decide +kernel
set_option maxHeartbeats 4000000 in
theorem rw10 : ((rootP [0, 0, 0, 31] true 70).x).getD 0 0 = 2608012711638119052 := by decide +kernel
set_option maxHeartbeats 4000000 in
theorem rw11 : ((rootP [0, 0, 0, 37] true 70).x).getD 0 0 = 6128411473006802146 := by decide +kernel
set_option maxHeartbeats 4000000 in
theorem rw12 : ((rootP [0, 0, 0, 41] true 70).x).getD 0 0 = 8268148722764581231 := by decide +kernel
set_option maxHeartbeats 4000000 in
theorem rw13 : ((rootP [0, 0, 0, 43] true 70).x).getD 0 0 = 9286055187155687089 := by decide +kernel
set_option maxHeartbeats 4000000 in
theorem rw14 : ((rootP [0, 0, 0, 47] true 70).x).getD 0 0 = 11230858885718282805 := by decide +kernel
set_option maxHeartbeats 4000000 in
theorem rw15 : ((rootP [0, 0, 0, 53] true 70).x).getD 0 0 = 13951009754708518548 := by decide +kernel
set_option maxHeartbeats 4000000 in
theorem rw16 : ((rootP [0, 0, 0, 59] true 70).x).getD 0 0 = 16472876342353939154 := by decide +kernel
set_option maxHeartbeats 4000000 in
theorem rw17 : ((rootP [0, 0, 0, 61] true 70).x).getD 0 0 = 17275323862435702243 := by decide +kernel
set_option maxHeartbeats 4000000 in
theorem rw18 : ((rootP [0, 0, 0, 67] true 70).x).getD 0 0 = 1135362057144423861 := by decide +kernel
set_option maxHeartbeats 4000000 in
theorem rw19 : ((rootP [0, 0, 0, 71] true 70).x).getD 0 0 = 2597628984639134821 := by decide +kernel
set_option maxHeartbeats 4000000 in
theorem rw20 : ((rootP [0, 0, 0, 73] true 70).x).getD 0 0 = 3308224258029322869 := by decide +kernel
set_option maxHeartbeats 4000000 in
theorem rw21 : ((rootP [0, 0, 0, 79] true 70).x).getD 0 0 = 5365058923640841347 := by decide +kernel
set_option maxHeartbeats 4000000 in
theorem rw22 : ((rootP [0, 0, 0, 83] true 70).x).getD 0 0 = 6679025012923562964 := by decide +kernel
set_option maxHeartbeats 4000000 in
theorem rw23 : ((rootP [0, 0, 0, 89] true 70).x).getD 0 0 = 8573033837759648693 := by decide +kernel
set_option maxHeartbeats 4000000 in
theorem rw24 : ((rootP [0, 0, 0, 97] true 70).x).getD 0 0 = 10970295158949994411 := by decide +kernel
set_option maxHeartbeats 4000000 in
theorem rw25 : ((rootP [0, 0, 0, 101] true 70).x).getD 0 0 = 12119686244451234320 := by decide +kernel
set_option maxHeartbeats 4000000 in
theorem rw26 : ((rootP [0, 0, 0, 103] true 70).x).getD 0 0 = 12683024718118986047 := by decide +kernel
set_option maxHeartbeats 4000000 in
theorem rw27 : ((rootP [0, 0, 0, 107] true 70).x).getD 0 0 = 13788192230050041572 := by decide +kernel
set_option maxHeartbeats 4000000 in
theorem rw28 : ((rootP [0, 0, 0, 109] true 70).x).getD 0 0 = 14330467153632333762 := by decide +kernel
set_option maxHeartbeats 4000000 in
theorem rw29 : ((rootP [0, 0, 0, 113] true 70).x).getD 0 0 = 15395433587784984357 := by decide +kernel
set_option maxHeartbeats 4000000 in
theorem rw30 : ((rootP [0, 0, 0, 127] true 70).x).getD 0 0 = 489312712824947311 := by decide +kernel
set_option maxHeartbeats 4000000 in
theorem rw31 : ((rootP [0, 0, 0, 131] true 70).x).getD 0 0 = 1452737877330783856 := by decide +kernel
set_option maxHeartbeats 4000000 in
theorem rw32 : ((rootP [0, 0, 0, 137] true 70).x).getD 0 0 = 2861767655752347644 := by decide +kernel
set_option maxHeartbeats 4000000 in
theorem rw33 : ((rootP [0, 0, 0, 139] true 70).x).getD 0 0 = 3322285676063803686 := by decide +kernel
set_option maxHeartbeats 4000000 in
theorem rw34 : ((rootP [0, 0, 0, 149] true 70).x).getD 0 0 = 5560940570517711597 := by decide +kernel
set_option maxHeartbeats 4000000 in
theorem rw35 : ((rootP [0, 0, 0, 151] true 70).x).getD 0 0 = 5996557281743188959 := by decide +kernel
set_option maxHeartbeats 4000000 in
theorem rw36 : ((rootP [0, 0, 0, 157] true 70).x).getD 0 0 = 7280758554555802590 := by decide +kernel
set_option maxHeartbeats 4000000 in
theorem rw37 : ((rootP [0, 0, 0, 163] true 70).x).getD 0 0 = 8532644243296465576 := by decide +kernel
set_option maxHeartbeats 4000000 in
theorem rw38 : ((rootP [0, 0, 0, 167] true 70).x).getD 0 0 = 9350256976987008742 := by decide +kernel
set_option maxHeartbeats 4000000 in
theorem rw39 : ((rootP [0, 0, 0, 173] true 70).x).getD 0 0 = 10552545826968843579 := by decide +kernel
set_option maxHeartbeats 4000000 in
theorem rw40 : ((rootP [0, 0, 0, 179] true 70).x).getD 0 0 = 11727347734174303076 := by decide +kernel
set_option maxHeartbeats 4000000 in
theorem rw41 : ((rootP [0, 0, 0, 181] true 70).x).getD 0 0 = 12113106623233404929 := by decide +kernel
set_option maxHeartbeats 4000000 in
theorem rw42 : ((rootP [0, 0, 0, 191] true 70).x).getD 0 0 = 14000437183269869457 := by decide +kernel
set_option maxHeartbeats 4000000 in
theorem rw43 : ((rootP [0, 0, 0, 193] true 70).x).getD 0 0 = 14369950271660146224 := by decide +kernel
set_option maxHeartbeats 4000000 in
theorem rw44 : ((rootP [0, 0, 0, 197] true 70).x).getD 0 0 = 15101387698204529176 := by decide +kernel
set_option maxHeartbeats 4000000 in
theorem rw45 : ((rootP [0, 0, 0, 199] true 70).x).getD 0 0 = 15463397548674623760 := by decide +kernel
set_option maxHeartbeats 4000000 in
theorem rw46 : ((rootP [0, 0, 0, 211] true 70).x).getD 0 0 = 17586052441742319658 := by decide +kernel
set_option maxHeartbeats 4000000 in
theorem rw47 : ((rootP [0, 0, 0, 223] true 70).x).getD 0 0 = 1182934255886127544 := by decide +kernel
set_option maxHeartbeats 4000000 in
theorem rw48 : ((rootP [0, 0, 0, 227] true 70).x).getD 0 0 = 1847814050463011016 := by decide +kernel
set_option maxHeartbeats 4000000 in
theorem rw49 : ((rootP [0, 0, 0, 229] true 70).x).getD 0 0 = 2177327727835720531 := by decide +kernel
set_option maxHeartbeats 4000000 in
theorem rw50 : ((rootP [0, 0, 0, 233] true 70).x).getD 0 0 = 2830643537854262169 := by decide +kernel
set_option maxHeartbeats 4000000 in
theorem rw51 : ((rootP [0, 0, 0, 239] true 70).x).getD 0 0 = 3796741975233480872 := by decide +kernel
set_option maxHeartbeats 4000000 in
theorem rw52 : ((rootP [0, 0, 0, 241] true 70).x).getD 0 0 = 4115178125766777443 := by decide +kernel
set_option maxHeartbeats 4000000 in
theorem rw53 : ((rootP [0, 0, 0, 251] true 70).x).getD 0 0 = 5681478168544905931 := by decide +kernel
set_option maxHeartbeats 4000000 in
theorem rw54 : ((rootP [0, 0, 0, 257] true 70).x).getD 0 0 = 6601373596472566643 := by decide +kernel
set_option maxHeartbeats 4000000 in
theorem rw55 : ((rootP [0, 0, 0, 263] true 70).x).getD 0 0 = 7507060721942968483 := by decide +kernel
set_option maxHeartbeats 4000000 in
theorem rw56 : ((rootP [0, 0, 0, 269] true 70).x).getD 0 0 = 8399075790359081724 := by decide +kernel
set_option maxHeartbeats 4000000 in
theorem rw57 : ((rootP [0, 0, 0, 271] true 70).x).getD 0 0 = 8693463985226723168 := by decide +kernel
set_option maxHeartbeats 4000000 in
theorem rw58 : ((rootP [0, 0, 0, 277] true 70).x).getD 0 0 = 9568029438360202098 := by decide +kernel
set_option maxHeartbeats 4000000 in
theorem rw59 : ((rootP [0, 0, 0, 281] true 70).x).getD 0 0 = 10144078919501101548 := by decide +kernel
set_option maxHeartbeats 4000000 in
theorem rw60 : ((rootP [0, 0, 0, 283] true 70).x).getD 0 0 = 10430055236837252648 := by decide +kernel
set_option maxHeartbeats 4000000 in
theorem rw61 : ((rootP [0, 0, 0, 293] true 70).x).getD 0 0 = 11840083180663258601 := by decide +kernel
set_option maxHeartbeats 4000000 in
theorem rw62 : ((rootP [0, 0, 0, 307] true 70).x).getD 0 0 = 13761210420658862357 := by decide +kernel
set_option maxHeartbeats 4000000 in
theorem rw63 : ((rootP [0, 0, 0, 311] true 70).x).getD 0 0 = 14299343276471374635 := by decide +kernel
set_option maxHeartbeats 4000000 in
theorem rw64 : ((rootP [0, 0, 0, 313] true 70).x).getD 0 0 = 14566680578165727644 := by decide +kernel
set_option maxHeartbeats 4000000 in
theorem rw65 : ((rootP [0, 0, 0, 317] true 70).x).getD 0 0 = 15097957966210449927 := by decide +kernel
set_option maxHeartbeats 4000000 in
theorem rw66 : ((rootP [0, 0, 0, 331] true 70).x).getD 0 0 = 16922976911328602910 := by decide +kernel
set_option maxHeartbeats 4000000 in
theorem rw67 : ((rootP [0, 0, 0, 337] true 70).x).getD 0 0 = 17689382322260857208 := by decide +kernel
set_option maxHeartbeats 4000000 in
theorem rw68 : ((rootP [0, 0, 0, 347] true 70).x).getD 0 0 = 500013540394364858 := by decide +kernel
set_option maxHeartbeats 4000000 in
theorem rw69 : ((rootP [0, 0, 0, 349] true 70).x).getD 0 0 = 748580250866718886 := by decide +kernel
set_option maxHeartbeats 4000000 in
theorem rw70 : ((rootP [0, 0, 0, 353] true 70).x).getD 0 0 = 1242879168328830382 := by decide +kernel
set_option maxHeartbeats 4000000 in
theorem rw71 : ((rootP [0, 0, 0, 359] true 70).x).getD 0 0 = 1977374033974150939 := by decide +kernel
set_option maxHeartbeats 4000000 in
theorem rw72 : ((rootP [0, 0, 0, 367] true 70).x).getD 0 0 = 2944078676154940804 := by decide +kernel
set_option maxHeartbeats 4000000 in
theorem rw73 : ((rootP [0, 0, 0, 373] true 70).x).getD 0 0 = 3659926193048069267 := by decide +kernel
set_option maxHeartbeats 4000000 in
theorem rw74 : ((rootP [0, 0, 0, 379] true 70).x).getD 0 0 = 4368137639120453308 := by decide +kernel
set_option maxHeartbeats 4000000 in
theorem rw75 : ((rootP [0, 0, 0, 383] true 70).x).getD 0 0 = 4836135668995329356 := by decide +kernel
set_option maxHeartbeats 4000000 in
theorem rw76 : ((rootP [0, 0, 0, 389] true 70).x).getD 0 0 = 5532061633213252278 := by decide +kernel
set_option maxHeartbeats 4000000 in
theorem rw77 : ((rootP [0, 0, 0, 397] true 70).x).getD 0 0 = 6448918945643986474 := by decide +kernel
set_option maxHeartbeats 4000000 in
theorem rw78 : ((rootP [0, 0, 0, 401] true 70).x).getD 0 0 = 6902733635092675308 := by decide +kernel
set_option maxHeartbeats 4000000 in
theorem rw79 : ((rootP [0, 0, 0, 409] true 70).x).getD 0 0 = 7801388544844847127 := by decide +kernel
set_option maxHeartbeats 4000000 in
theorem rf0 : ((rootP [0, 0, 2, 0] false 70).x).getD 0 0 = 7640891576956012808 := by decide +kernel
set_option maxHeartbeats 4000000 in
theorem rf1 : ((rootP [0, 0, 3, 0] false 70).x).getD 0 0 = 13503953896175478587 := by decide +kernel
set_option maxHeartbeats 4000000 in
theorem rf2 : ((rootP [0, 0, 5, 0] false 70).x).getD 0 0 = 4354685564936845355 := by decide +kernel
set_option maxHeartbeats 4000000 in
theorem rf3 : ((rootP [0, 0, 7, 0] false 70).x).getD 0 0 = 11912009170470909681 := by decide +kernel
set_option maxHeartbeats 4000000 in
theorem rf4 : ((rootP [0, 0, 11, 0] false 70).x).getD 0 0 = 5840696475078001361 := by decide +kernel
set_option maxHeartbeats 4000000 in
theorem rf5 : ((rootP [0, 0, 13, 0] false 70).x).getD 0 0 = 11170449401992604703 := by decide +kernel
set_option maxHeartbeats 4000000 in
theorem rf6 : ((rootP [0, 0, 17, 0] false 70).x).getD 0 0 = 2270897969802886507 := by decide +kernel
set_option maxHeartbeats 4000000 in
theorem rf7 : ((rootP [0, 0, 19, 0] false 70).x).getD 0 0 = 6620516959819538809 := by decide +kernel
theorem prL_lit : prL 408 = [2, 3, 5, 7, 11, 13, 17, 19, 23, 29, 31, 37, 41, 43, 47, 53, 59, 61, 67, 71, 73, 79, 83, 89, 97, 101, 103, 107, 109, 113, 127, 131, 137, 139, 149, 151, 157, 163, 167, 173, 179, 181, 191, 193, 197, 199, 211, 223, 227, 229, 233, 239, 241, 251, 257, 263, 269, 271, 277, 281, 283, 293, 307, 311, 313, 317, 331, 337, 347, 349, 353, 359, 367, 373, 379, 383, 389, 397, 401, 409] := by decide +kernel
theorem roots_wide : ∀ i, i < 80 → ((rootP [0, 0, 0, (prL 408).getD i 0] true 70).x).getD 0 0 = constsL.getD i 0 := by
  intro i hi
  rw [prL_lit]
  match i, hi with
  | 0, _ => exact rw0
  | 1, _ => exact rw1
  | 2, _ => exact rw2
  | 3, _ => exact rw3
  | 4, _ => exact rw4
  | 5, _ => exact rw5
  | 6, _ => exact rw6
  | 7, _ => exact rw7
  | 8, _ => exact rw8
  | 9, _ => exact rw9
  | 10, _ => exact rw10
  | 11, _ => exact rw11
  | 12, _ => exact rw12
  | 13, _ => exact rw13
  | 14, _ => exact rw14
  | 15, _ => exact rw15
  | 16, _ => exact rw16
  | 17, _ => exact rw17
  | 18, _ => exact rw18
  | 19, _ => exact rw19
  | 20, _ => exact rw20
  | 21, _ => exact rw21
  | 22, _ => exact rw22
  | 23, _ => exact rw23
  | 24, _ => exact rw24
  | 25, _ => exact rw25
  | 26, _ => exact rw26
  | 27, _ => exact rw27
  | 28, _ => exact rw28
  | 29, _ => exact rw29
  | 30, _ => exact rw30
  | 31, _ => exact rw31
  | 32, _ => exact rw32
  | 33, _ => exact rw33
  | 34, _ => exact rw34
  | 35, _ => exact rw35
  | 36, _ => exact rw36
  | 37, _ => exact rw37
  | 38, _ => exact rw38
  | 39, _ => exact rw39
  | 40, _ => exact rw40
  | 41, _ => exact rw41
  | 42, _ => exact rw42
  | 43, _ => exact rw43
  | 44, _ => exact rw44
  | 45, _ => exact rw45
  | 46, _ => exact rw46
  | 47, _ => exact rw47
  | 48, _ => exact rw48
  | 49, _ => exact rw49
  | 50, _ => exact rw50
  | 51, _ => exact rw51
  | 52, _ => exact rw52
  | 53, _ => exact rw53
  | 54, _ => exact rw54
  | 55, _ => exact rw55
  | 56, _ => exact rw56
  | 57, _ => exact rw57
  | 58, _ => exact rw58
  | 59, _ => exact rw59
  | 60, _ => exact rw60
  | 61, _ => exact rw61
  | 62, _ => exact rw62
  | 63, _ => exact rw63
  | 64, _ => exact rw64
  | 65, _ => exact rw65
  | 66, _ => exact rw66
  | 67, _ => exact rw67
  | 68, _ => exact rw68
  | 69, _ => exact rw69
  | 70, _ => exact rw70
  | 71, _ => exact rw71
  | 72, _ => exact rw72
  | 73, _ => exact rw73
  | 74, _ => exact rw74
  | 75, _ => exact rw75
  | 76, _ => exact rw76
  | 77, _ => exact rw77
  | 78, _ => exact rw78
  | 79, _ => exact rw79
  | k + 80, h => exact absurd h (by omega)
theorem roots_first : ∀ i, i < 8 → ((rootP [0, 0, (prL 408).getD i 0, 0] false 70).x).getD 0 0 = firstL.getD i 0 := by
  intro i hi
  rw [prL_lit]
  match i, hi with
  | 0, _ => exact rf0
  | 1, _ => exact rf1
  | 2, _ => exact rf2
  | 3, _ => exact rf3
  | 4, _ => exact rf4
  | 5, _ => exact rf5
  | 6, _ => exact rf6
  | 7, _ => exact rf7
  | k + 8, h => exact absurd h (by omega)

end Go.Proofs.Ytojmbbapcnfibaa
