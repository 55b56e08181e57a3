/- The roots are the words that are published. -/
import Derived.Test.YtkgkbaicjpgljaaSe
namespace Go.Proofs.Ytkgkbaicjpgljaa
set_option linter.unusedVariables false

def firstL : List Nat := [7640891576956012808, 13503953896175478587, 4354685564936845355, 11912009170470909681, 5840696475078001361, 11170449401992604703, 2270897969802886507, 6620516959819538809]
def constL : List Nat := [4794697086780616226, 8158064640168781261, 13096744586834688815, 16840607885511220156, 4131703408338449720, 6480981068601479193, 10538285296894168987, 12329834152419229976, 15566598209576043074, 1334009975649890238, 2608012711638119052, 6128411473006802146, 8268148722764581231, 9286055187155687089, 11230858885718282805, 13951009754708518548, 16472876342353939154, 17275323862435702243, 1135362057144423861, 2597628984639134821, 3308224258029322869, 5365058923640841347, 6679025012923562964, 8573033837759648693, 10970295158949994411, 12119686244451234320, 12683024718118986047, 13788192230050041572, 14330467153632333762, 15395433587784984357, 489312712824947311, 1452737877330783856, 2861767655752347644, 3322285676063803686, 5560940570517711597, 5996557281743188959, 7280758554555802590, 8532644243296465576, 9350256976987008742, 10552545826968843579, 11727347734174303076, 12113106623233404929, 14000437183269869457, 14369950271660146224, 15101387698204529176, 15463397548674623760, 17586052441742319658, 1182934255886127544, 1847814050463011016, 2177327727835720531, 2830643537854262169, 3796741975233480872, 4115178125766777443, 5681478168544905931, 6601373596472566643, 7507060721942968483, 8399075790359081724, 8693463985226723168, 9568029438360202098, 10144078919501101548, 10430055236837252648, 11840083180663258601, 13761210420658862357, 14299343276471374635, 14566680578165727644, 15097957966210449927, 16922976911328602910, 17689382322260857208, 500013540394364858, 748580250866718886, 1242879168328830382, 1977374033974150939, 2944078676154940804, 3659926193048069267, 4368137639120453308, 4836135668995329356, 5532061633213252278, 6448918945643986474, 6902733635092675308, 7801388544844847127]
theorem primes_eq : primesL = [2, 3, 5, 7, 11, 13, 17, 19, 23, 29, 31, 37, 41, 43, 47, 53, 59, 61, 67, 71, 73, 79, 83, 89, 97, 101, 103, 107, 109, 113, 127, 131, 137, 139, 149, 151, 157, 163, 167, 173, 179, 181, 191, 193, 197, 199, 211, 223, 227, 229, 233, 239, 241, 251, 257, 263, 269, 271, 277, 281, 283, 293, 307, 311, 313, 317, 331, 337, 347, 349, 353, 359, 367, 373, 379, 383, 389, 397, 401, 409] := by decide +kernel
theorem sq_2 : rootN 2 2 = 7640891576956012808 := by decide +kernel
theorem sq_3 : rootN 3 2 = 13503953896175478587 := by decide +kernel
theorem sq_5 : rootN 5 2 = 4354685564936845355 := by decide +kernel
theorem sq_7 : rootN 7 2 = 11912009170470909681 := by decide +kernel
theorem sq_11 : rootN 11 2 = 5840696475078001361 := by decide +kernel
theorem sq_13 : rootN 13 2 = 11170449401992604703 := by decide +kernel
theorem sq_17 : rootN 17 2 = 2270897969802886507 := by decide +kernel
theorem sq_19 : rootN 19 2 = 6620516959819538809 := by decide +kernel
theorem cu_2 : rootN 2 3 = 4794697086780616226 := by decide +kernel
theorem cu_3 : rootN 3 3 = 8158064640168781261 := by decide +kernel
theorem cu_5 : rootN 5 3 = 13096744586834688815 := by decide +kernel
theorem cu_7 : rootN 7 3 = 16840607885511220156 := by decide +kernel
theorem cu_11 : rootN 11 3 = 4131703408338449720 := by decide +kernel
theorem cu_13 : rootN 13 3 = 6480981068601479193 := by decide +kernel
theorem cu_17 : rootN 17 3 = 10538285296894168987 := by decide +kernel
theorem cu_19 : rootN 19 3 = 12329834152419229976 := by decide +kernel
theorem cu_23 : rootN 23 3 = 15566598209576043074 := by decide +kernel
theorem cu_29 : rootN 29 3 = 1334009975649890238 := by decide +kernel
theorem cu_31 : rootN 31 3 = 2608012711638119052 := by decide +kernel
theorem cu_37 : rootN 37 3 = 6128411473006802146 := by decide +kernel
theorem cu_41 : rootN 41 3 = 8268148722764581231 := by decide +kernel
theorem cu_43 : rootN 43 3 = 9286055187155687089 := by decide +kernel
theorem cu_47 : rootN 47 3 = 11230858885718282805 := by decide +kernel
theorem cu_53 : rootN 53 3 = 13951009754708518548 := by decide +kernel
theorem cu_59 : rootN 59 3 = 16472876342353939154 := by decide +kernel
theorem cu_61 : rootN 61 3 = 17275323862435702243 := by decide +kernel
theorem cu_67 : rootN 67 3 = 1135362057144423861 := by decide +kernel
theorem cu_71 : rootN 71 3 = 2597628984639134821 := by decide +kernel
theorem cu_73 : rootN 73 3 = 3308224258029322869 := by decide +kernel
theorem cu_79 : rootN 79 3 = 5365058923640841347 := by decide +kernel
theorem cu_83 : rootN 83 3 = 6679025012923562964 := by decide +kernel
theorem cu_89 : rootN 89 3 = 8573033837759648693 := by decide +kernel
theorem cu_97 : rootN 97 3 = 10970295158949994411 := by decide +kernel
theorem cu_101 : rootN 101 3 = 12119686244451234320 := by decide +kernel
theorem cu_103 : rootN 103 3 = 12683024718118986047 := by decide +kernel
theorem cu_107 : rootN 107 3 = 13788192230050041572 := by decide +kernel
theorem cu_109 : rootN 109 3 = 14330467153632333762 := by decide +kernel
theorem cu_113 : rootN 113 3 = 15395433587784984357 := by decide +kernel
theorem cu_127 : rootN 127 3 = 489312712824947311 := by decide +kernel
theorem cu_131 : rootN 131 3 = 1452737877330783856 := by decide +kernel
theorem cu_137 : rootN 137 3 = 2861767655752347644 := by decide +kernel
theorem cu_139 : rootN 139 3 = 3322285676063803686 := by decide +kernel
theorem cu_149 : rootN 149 3 = 5560940570517711597 := by decide +kernel
theorem cu_151 : rootN 151 3 = 5996557281743188959 := by decide +kernel
theorem cu_157 : rootN 157 3 = 7280758554555802590 := by decide +kernel
theorem cu_163 : rootN 163 3 = 8532644243296465576 := by decide +kernel
theorem cu_167 : rootN 167 3 = 9350256976987008742 := by decide +kernel
theorem cu_173 : rootN 173 3 = 10552545826968843579 := by decide +kernel
theorem cu_179 : rootN 179 3 = 11727347734174303076 := by decide +kernel
theorem cu_181 : rootN 181 3 = 12113106623233404929 := by decide +kernel
theorem cu_191 : rootN 191 3 = 14000437183269869457 := by decide +kernel
theorem cu_193 : rootN 193 3 = 14369950271660146224 := by decide +kernel
theorem cu_197 : rootN 197 3 = 15101387698204529176 := by decide +kernel
theorem cu_199 : rootN 199 3 = 15463397548674623760 := by decide +kernel
theorem cu_211 : rootN 211 3 = 17586052441742319658 := by decide +kernel
theorem cu_223 : rootN 223 3 = 1182934255886127544 := by decide +kernel
theorem cu_227 : rootN 227 3 = 1847814050463011016 := by decide +kernel
theorem cu_229 : rootN 229 3 = 2177327727835720531 := by decide +kernel
theorem cu_233 : rootN 233 3 = 2830643537854262169 := by decide +kernel
theorem cu_239 : rootN 239 3 = 3796741975233480872 := by decide +kernel
theorem cu_241 : rootN 241 3 = 4115178125766777443 := by decide +kernel
theorem cu_251 : rootN 251 3 = 5681478168544905931 := by decide +kernel
theorem cu_257 : rootN 257 3 = 6601373596472566643 := by decide +kernel
theorem cu_263 : rootN 263 3 = 7507060721942968483 := by decide +kernel
theorem cu_269 : rootN 269 3 = 8399075790359081724 := by decide +kernel
theorem cu_271 : rootN 271 3 = 8693463985226723168 := by decide +kernel
theorem cu_277 : rootN 277 3 = 9568029438360202098 := by decide +kernel
theorem cu_281 : rootN 281 3 = 10144078919501101548 := by decide +kernel
theorem cu_283 : rootN 283 3 = 10430055236837252648 := by decide +kernel
theorem cu_293 : rootN 293 3 = 11840083180663258601 := by decide +kernel
theorem cu_307 : rootN 307 3 = 13761210420658862357 := by decide +kernel
theorem cu_311 : rootN 311 3 = 14299343276471374635 := by decide +kernel
theorem cu_313 : rootN 313 3 = 14566680578165727644 := by decide +kernel
theorem cu_317 : rootN 317 3 = 15097957966210449927 := by decide +kernel
theorem cu_331 : rootN 331 3 = 16922976911328602910 := by decide +kernel
theorem cu_337 : rootN 337 3 = 17689382322260857208 := by decide +kernel
theorem cu_347 : rootN 347 3 = 500013540394364858 := by decide +kernel
theorem cu_349 : rootN 349 3 = 748580250866718886 := by decide +kernel
theorem cu_353 : rootN 353 3 = 1242879168328830382 := by decide +kernel
theorem cu_359 : rootN 359 3 = 1977374033974150939 := by decide +kernel
theorem cu_367 : rootN 367 3 = 2944078676154940804 := by decide +kernel
theorem cu_373 : rootN 373 3 = 3659926193048069267 := by decide +kernel
theorem cu_379 : rootN 379 3 = 4368137639120453308 := by decide +kernel
theorem cu_383 : rootN 383 3 = 4836135668995329356 := by decide +kernel
theorem cu_389 : rootN 389 3 = 5532061633213252278 := by decide +kernel
theorem cu_397 : rootN 397 3 = 6448918945643986474 := by decide +kernel
theorem cu_401 : rootN 401 3 = 6902733635092675308 := by decide +kernel
theorem cu_409 : rootN 409 3 = 7801388544844847127 := by decide +kernel
theorem first_roots : rootsL 2 8 = firstL := by
  unfold rootsL firstL
  rw [primes_eq]
  simp only [List.take_succ_cons, List.take_zero, List.map_cons, List.map_nil, sq_2, sq_3, sq_5, sq_7, sq_11, sq_13, sq_17, sq_19]
theorem const_roots : rootsL 3 80 = constL := by
  unfold rootsL constL
  rw [primes_eq]
  simp only [List.take_succ_cons, List.take_zero, List.map_cons, List.map_nil, cu_2, cu_3, cu_5, cu_7, cu_11, cu_13, cu_17, cu_19, cu_23, cu_29, cu_31, cu_37, cu_41, cu_43, cu_47, cu_53, cu_59, cu_61, cu_67, cu_71, cu_73, cu_79, cu_83, cu_89, cu_97, cu_101, cu_103, cu_107, cu_109, cu_113, cu_127, cu_131, cu_137, cu_139, cu_149, cu_151, cu_157, cu_163, cu_167, cu_173, cu_179, cu_181, cu_191, cu_193, cu_197, cu_199, cu_211, cu_223, cu_227, cu_229, cu_233, cu_239, cu_241, cu_251, cu_257, cu_263, cu_269, cu_271, cu_277, cu_281, cu_283, cu_293, cu_307, cu_311, cu_313, cu_317, cu_331, cu_337, cu_347, cu_349, cu_353, cu_359, cu_367, cu_373, cu_379, cu_383, cu_389, cu_397, cu_401, cu_409]
end Go.Proofs.Ytkgkbaicjpgljaa
